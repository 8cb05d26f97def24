/- A part of the proof of this sentence: The law bulletinlaw28.PathBack returns true for every input: a right address is read of what is shown of it, as where a mail comes from, with any size of up to nine digits, and as where it goes; the tables of unicode/utf8 are as the program's text lays them. -/
import Derived.Test.YtgaaogijfikfeaaDoorCPathBack5
import Derived.Shelf.Strings.SlTrimAscii
import Derived.Deep.QuietTactic
import Derived.BigQuiet
import Derived.Shelf.Strings.IndexAnyAll
set_option linter.unusedVariables false
namespace Go.Proofs.YtgaaogijfikfeaaDoor.Pl
open Go.RowKit Go.Proofs.YtgaaogijfikfeaaDoorW.PrintWords Go.Proofs.YtgaaogijfikfeaaDoor.Fn

/-! Layer 12, the program's: its Scan is the same machine. -/
set_option maxRecDepth 100000 in
theorem lexsign_is (c : UInt8) : lex_sign.f (c.toNat : Int) = some (signB c) := forall_byte (p := fun c => lex_sign.f (c.toNat : Int) = some (signB c)) (by decide +kernel) c
set_option maxRecDepth 100000 in
theorem lexwhite_is (c : UInt8) : lex_white.f (c.toNat : Int) = some (whiteB c) := forall_byte (p := fun c => lex_white.f (c.toNat : Int) = some (whiteB c)) (by decide +kernel) c
set_option maxRecDepth 100000 in
theorem atomic_apart (c : UInt8) : atomic c = true → c ≠ 13 ∧ c ≠ 40 ∧ c ≠ 34 ∧ c ≠ 32 ∧ c ≠ 9 ∧ signB c = false := forall_byte (p := fun c => atomic c = true → c ≠ 13 ∧ c ≠ 40 ∧ c ≠ 34 ∧ c ≠ 32 ∧ c ≠ 9 ∧ signB c = false) (by decide +kernel) c
set_option maxRecDepth 100000 in
theorem white_apart (c : UInt8) : whiteB c = true → c ≠ 13 ∧ c ≠ 40 ∧ c ≠ 34 ∧ atomic c = false ∧ signB c = false := forall_byte (p := fun c => whiteB c = true → c ≠ 13 ∧ c ≠ 40 ∧ c ≠ 34 ∧ atomic c = false ∧ signB c = false) (by decide +kernel) c
theorem fold_not {c : UInt8} (h : c ≠ 13) (l : Bytes) : foldAt (c :: l) = false := by
  cases l with
  | nil => rfl
  | cons b l =>
    cases l with
    | nil => rfl
    | cons e l => simp only [foldAt]; simp [h]
theorem lexfold_is (s : ByteArray) (hs : s.size ≤ 1000000) : lex_fold.f s = some (foldAt (bs s)) := by
  have hlen := bs_length s
  unfold lex_fold.f
  cases hb : bs s with
  | nil =>
    rw [hb] at hlen
    simp only [List.length_nil] at hlen
    rw [if_neg (by omega)]; rfl
  | cons a l =>
    have h0 : (bs s).drop 0 = a :: l := by simpa using hb
    cases l with
    | nil =>
      rw [hb] at hlen
      simp only [List.length_cons, List.length_nil] at hlen
      rw [if_neg (by omega)]; rfl
    | cons b l =>
      have h1 : (bs s).drop 1 = b :: l := (drop_cons h0).2.2.1
      cases l with
      | nil =>
        rw [hb] at hlen
        simp only [List.length_cons, List.length_nil] at hlen
        rw [if_neg (by omega)]; rfl
      | cons c l =>
        have h2 : (bs s).drop 2 = c :: l := (drop_cons h1).2.2.1
        rw [hb] at hlen
        simp only [List.length_cons] at hlen
        have e0 : bt s 0 = (a.toNat : Int) := bt_drop h0
        have e1 : bt s 1 = (b.toNat : Int) := bt_drop h1
        have e2 : bt s 2 = (c.toNat : Int) := bt_drop h2
        rw [if_pos (by omega), if_pos (by omega), e0]
        by_cases a13 : a = 13
        · rw [if_pos (by rw [a13]; rfl), if_pos (by omega), e1]
          by_cases b10 : b = 10
          · rw [if_pos (by rw [b10]; rfl), if_pos (by omega), e2, lexwhite_is, a13, b10]
            simp [foldAt]
          · rw [if_neg (c := (b.toNat : Int) = 10) (fun h => b10 ((byte_ofNat b 10 (by decide)).1 h))]
            simp [foldAt, b10]
        · rw [if_neg (c := (a.toNat : Int) = 13) (fun h => a13 ((byte_ofNat a 13 (by decide)).1 h))]
          simp [foldAt, a13]
def escL : Bytes → Int
  | [] => 9
  | c :: _ => if text c = true then 0 else 3
theorem lexescaped_is (s : ByteArray) : lex_escaped.f s = some (escL (bs s)) := by
  unfold lex_escaped.f
  rw [toList_bs]
  cases hb : bs s with
  | nil => rw [if_pos rfl]; rfl
  | cons c l =>
    have hlen := bs_length s
    rw [hb] at hlen
    simp only [List.length_cons] at hlen
    have e0 : bt s 0 = (c.toNat : Int) := bt_drop (s := s) (i := 0) (by simpa using hb)
    rw [if_neg (by simp), if_pos (by omega), e0, text_is, Option.bind_some]
    show (if text c = true then some (0 : Int) else some 3) = some (if text c = true then 0 else 3)
    cases text c <;> rfl
theorem bs_rest (s : ByteArray) (i : Nat) : bs (s.extract i s.size) = (bs s).drop i := by
  rw [bs_extract, List.take_of_length_le (by rw [bs_length]; exact Nat.le_refl _)]
theorem str_rest (s : ByteArray) (i : Nat) : s.extract i s.size = str ((bs s).drop i) := by
  apply bs_inj
  rw [bs_rest, bs_str]
def QuotSays (s : ByteArray) (k i : Nat) (w l : Bytes) : Prop :=
  (∃ w' r, lex_quoted.l0 k s (numsOf w) (i : Int) = some (2, str w', str r, 0) ∧ r.length ≤ l.length ∧ ∀ acc, scanL acc (.quot w false) l = scanL (acc ++ [(2, w')]) .out r) ∨
  (∃ e, e ≠ 0 ∧ lex_quoted.l0 k s (numsOf w) (i : Int) = some (0, str [], str [], e) ∧ ∀ acc, scanL acc (.quot w false) l = ([], e))
theorem QuotSays.le {s : ByteArray} {k k' i i' : Nat} {w w' l l' : Bytes} (h : QuotSays s k i w l) (hk : lex_quoted.l0 k' s (numsOf w') (i' : Int) = lex_quoted.l0 k s (numsOf w) (i : Int)) (hl : l.length ≤ l'.length) (hs : ∀ acc, scanL acc (.quot w' false) l' = scanL acc (.quot w false) l) : QuotSays s k' i' w' l' := by
  rcases h with ⟨a, r, h1, h2, h3⟩ | ⟨e, h1, h2, h3⟩
  · exact .inl ⟨a, r, hk.trans h1, by omega, fun acc => (hs acc).trans (h3 acc)⟩
  · exact .inr ⟨e, h1, hk.trans h2, fun acc => (hs acc).trans (h3 acc)⟩
theorem lexquoted_l0 (s : ByteArray) (hs : s.size ≤ 1000000) : ∀ (n k i : Nat) (w l : Bytes), l.length ≤ n → n + 1 ≤ k → (bs s).drop i = l → i ≤ (bs s).length → w.length ≤ i → QuotSays s k i w l
  | n, k, i, w, [], hn, hk, hd, hi, hw => by
    obtain ⟨k, rfl⟩ : ∃ j, k = j + 1 := ⟨k - 1, by omega⟩
    have := drop_nil hd
    rw [bs_length] at this hi
    refine .inr ⟨9, by decide, ?_, fun acc => rfl⟩
    rw [lex_quoted.l0, if_neg (by omega)]
    rfl
  | 0, k, i, w, c :: l, hn, hk, hd, hi, hw => by simp at hn
  | n + 1, k, i, w, c :: l, hn, hk, hd, hi, hw => by
    obtain ⟨k, rfl⟩ : ∃ j, k = j + 1 := ⟨k - 1, by omega⟩
    obtain ⟨h1, h2, h3, h4⟩ := drop_cons hd
    have h5 : i < s.size := by rw [bs_length] at h1; exact h1
    simp only [List.length_cons] at hn
    have e1 : wrap64 ((i : Int) + 1) = ((i + 1 : Nat) : Int) := wrap_succ i (by omega)
    have e2 : wrap64 (wrap64 ((i : Int) + 1) + 1) = ((i + 2 : Nat) : Int) := by rw [e1, wrap_succ (i + 1) (by omega)]
    have hl0 : ∀ X : Option (Int × ByteArray × ByteArray × Int), X = lex_quoted.l0 (k + 1) s (numsOf w) (i : Int) → lex_quoted.l0 (k + 1) s (numsOf w) (i : Int) = X := fun X h => h.symm
    have hstart : lex_quoted.l0 (k + 1) s (numsOf w) (i : Int) = (if foldAt (c :: l) = true then (lex_quoted.l0 k s (numsOf w) ((i + 2 : Nat) : Int)) else (if (c.toNat : Int) = 92 then (if escL l = 0 then (lex_quoted.l0 k s (numsOf w ++ [bt s ((i + 1 : Nat) : Int)]) ((i + 2 : Nat) : Int)) else some (0, (⟨#[]⟩ : ByteArray), (⟨#[]⟩ : ByteArray), escL l)) else (if (c.toNat : Int) = 34 then some (2, strOfNums (numsOf w), str l, 0) else (if text c = true then lex_quoted.l0 k s (numsOf w ++ [(c.toNat : Int)]) ((i + 1 : Nat) : Int) else some (0, (⟨#[]⟩ : ByteArray), (⟨#[]⟩ : ByteArray), 3))))) := by
      rw [lex_quoted.l0, if_pos (by omega), if_pos (by omega), if_pos (by omega)]
      simp only [Int.toNat_natCast]
      rw [lexfold_is _ (by simp only [ByteArray.size_extract]; omega), bs_rest, hd, Option.bind_some]
      cases hf : foldAt (c :: l) with
      | true => rw [if_pos rfl, if_pos rfl, e2]
      | false =>
        rw [if_neg (c := false = true) (by decide), if_neg (c := false = true) (by decide), bt_drop hd]
        by_cases c92 : (c.toNat : Int) = 92
        · rw [if_pos c92, if_pos c92, e1, if_pos (by omega), if_pos (by omega)]
          simp only [Int.toNat_natCast]
          rw [lexescaped_is, bs_rest, h3, Option.bind_some]
          by_cases he : escL l = 0
          · rw [if_pos he, if_pos he]
            have hne : i + 1 < s.size := by
              rcases Nat.lt_or_ge (i + 1) s.size with q | q
              · exact q
              · have : l = [] := by rw [← h3]; exact List.drop_of_length_le (by rw [bs_length]; exact q)
                rw [this] at he; cases he
            rw [if_pos (by omega), if_pos (by rw [numsOf_length]; omega), wrap_succ (i + 1) (by omega)]
          · rw [if_neg he, if_neg he]
        · rw [if_neg c92, if_neg c92]
          by_cases c34 : (c.toNat : Int) = 34
          · rw [if_pos c34, if_pos c34, e1, if_pos (by omega), if_pos (by omega)]
            simp only [Int.toNat_natCast]
            rw [str_rest, h3]
          · rw [if_neg c34, if_neg c34, text_is, Option.bind_some]
            cases ht : text c with
            | true => rw [if_pos rfl, if_pos rfl, if_pos (by rw [numsOf_length]; omega), e1]
            | false => rw [if_neg (c := false = true) (by decide), if_neg (c := false = true) (by decide)]
    cases hf : foldAt (c :: l) with
    | true =>
      obtain ⟨t1, t2, t3⟩ := tail_drop hd hf
      rw [hf, if_pos rfl] at hstart
      refine (lexquoted_l0 s hs n k (i + 2) w l.tail (by omega) (by omega) t1 t2 (by omega)).le hstart (by simp; omega) (fun acc => ?_)
      rw [scanL_cons]
      unfold step
      simp only []
      rw [hf, if_pos rfl]
    | false =>
      rw [hf, if_neg (by decide)] at hstart
      by_cases c92 : c = 92
      · rw [if_pos (by rw [c92]; rfl)] at hstart
        have hst : ∀ acc, scanL acc (.quot w false) (c :: l) = scanL acc (.quot w true) l := by
          intro acc
          rw [scanL_cons]
          unfold step
          simp only []
          rw [hf, if_neg (by decide), if_pos c92]
        cases hl : l with
        | nil =>
          rw [hl] at hstart
          refine .inr ⟨9, by decide, hstart.trans rfl, fun acc => ?_⟩
          rw [← hl, hst, hl]
          rfl
        | cons x l2 =>
          have hdx : (bs s).drop (i + 1) = x :: l2 := by rw [h3, hl]
          obtain ⟨g1, g2, g3, g4⟩ := drop_cons hdx
          have hsx : ∀ acc, scanL acc (.quot w false) (c :: x :: l2) = if text x = true then scanL acc (.quot (w ++ [x]) false) l2 else ([], 3) := by
            intro acc
            rw [← hl, hst, hl, scanL_cons]
            unfold step
            cases text x <;> rfl
          rw [hl] at hstart hn
          simp only [List.length_cons] at hn
          cases ht : text x with
          | true =>
            rw [show escL (x :: l2) = 0 by show (if text x = true then (0 : Int) else 3) = 0; rw [ht]; rfl, if_pos rfl, bt_drop hdx, show numsOf w ++ [(x.toNat : Int)] = numsOf (w ++ [x]) by simp [numsOf]] at hstart
            refine (lexquoted_l0 s hs n k (i + 2) (w ++ [x]) l2 (by omega) (by omega) g3 (by omega) (by simp; omega)).le hstart (by simp; omega) (fun acc => ?_)
            rw [hsx, ht, if_pos rfl]
          | false =>
            rw [show escL (x :: l2) = 3 by show (if text x = true then (0 : Int) else 3) = 3; rw [ht]; rfl, if_neg (by decide)] at hstart
            exact .inr ⟨3, by decide, hstart, fun acc => by rw [hsx, ht]; rfl⟩
      · rw [if_neg (c := (c.toNat : Int) = 92) (fun h => c92 ((byte_ofNat c 92 (by decide)).1 h))] at hstart
        by_cases c34 : c = 34
        · rw [if_pos (by rw [c34]; rfl), strOfNums_of] at hstart
          refine .inl ⟨w, l, hstart, by simp, fun acc => ?_⟩
          rw [scanL_cons]
          unfold step
          simp only []
          rw [hf, if_neg (by decide), if_neg c92, if_pos (by rw [c34]; exact text_34), if_pos c34]
        · rw [if_neg (c := (c.toNat : Int) = 34) (fun h => c34 ((byte_ofNat c 34 (by decide)).1 h))] at hstart
          cases ht : text c with
          | true =>
            rw [ht, if_pos rfl, show numsOf w ++ [(c.toNat : Int)] = numsOf (w ++ [c]) by simp [numsOf]] at hstart
            refine (lexquoted_l0 s hs n k (i + 1) (w ++ [c]) l (by omega) (by omega) h3 (by omega) (by simp; omega)).le hstart (by simp) (fun acc => ?_)
            rw [scanL_cons]
            unfold step
            simp only []
            rw [hf, ht, if_neg (by decide), if_neg c92, if_pos rfl, if_neg c34]
          | false =>
            rw [ht, if_neg (by decide)] at hstart
            refine .inr ⟨3, by decide, hstart, fun acc => ?_⟩
            rw [scanL_cons]
            unfold step
            simp only []
            rw [hf, ht, if_neg (by decide), if_neg c92, if_neg (by decide)]

def CommSays (s : ByteArray) (k i m : Nat) (l : Bytes) : Prop :=
  (∃ r, lex_comment.l0 k s (m : Int) (i : Int) = some (str r, 0) ∧ r.length ≤ l.length ∧ ∀ acc, scanL acc (.comm m false) l = scanL acc .out r) ∨
  (∃ e, e ≠ 0 ∧ lex_comment.l0 k s (m : Int) (i : Int) = some (str [], e) ∧ ∀ acc, scanL acc (.comm m false) l = ([], e))
theorem CommSays.le {s : ByteArray} {k k' i i' m m' : Nat} {l l' : Bytes} (h : CommSays s k i m l) (hk : lex_comment.l0 k' s (m' : Int) (i' : Int) = lex_comment.l0 k s (m : Int) (i : Int)) (hl : l.length ≤ l'.length) (hs : ∀ acc, scanL acc (.comm m' false) l' = scanL acc (.comm m false) l) : CommSays s k' i' m' l' := by
  rcases h with ⟨r, h1, h2, h3⟩ | ⟨e, h1, h2, h3⟩
  · exact .inl ⟨r, hk.trans h1, by omega, fun acc => (hs acc).trans (h3 acc)⟩
  · exact .inr ⟨e, h1, hk.trans h2, fun acc => (hs acc).trans (h3 acc)⟩
theorem text_40 : text 40 = true := by decide +kernel
theorem text_41 : text 41 = true := by decide +kernel
theorem lexcomment_l0 (s : ByteArray) (hs : s.size ≤ 1000000) : ∀ (n k i m : Nat) (l : Bytes), l.length ≤ n → 3 * n + 3 ≤ k → (bs s).drop i = l → i ≤ (bs s).length → 1 ≤ m → m ≤ 16 → CommSays s k i m l
  | n, k, i, m, [], hn, hk, hd, hi, hm1, hm2 => by
    obtain ⟨k, rfl⟩ : ∃ j, k = j + 1 := ⟨k - 1, by omega⟩
    have := drop_nil hd
    rw [bs_length] at this hi
    refine .inr ⟨9, by decide, ?_, fun acc => rfl⟩
    rw [lex_comment.l0, if_neg (by omega), if_pos (by omega)]
    rfl
  | 0, k, i, m, c :: l, hn, hk, hd, hi, hm1, hm2 => by simp at hn
  | n + 1, k, i, m, c :: l, hn, hk, hd, hi, hm1, hm2 => by
    obtain ⟨k, rfl⟩ : ∃ j, k = j + 3 := ⟨k - 3, by omega⟩
    obtain ⟨h1, h2, h3, h4⟩ := drop_cons hd
    have h5 : i < s.size := by rw [bs_length] at h1; exact h1
    simp only [List.length_cons] at hn
    have e1 : wrap64 ((i : Int) + 1) = ((i + 1 : Nat) : Int) := wrap_succ i (by omega)
    have e2 : wrap64 (wrap64 ((i : Int) + 1) + 1) = ((i + 2 : Nat) : Int) := by rw [e1, wrap_succ (i + 1) (by omega)]
    have hstart : lex_comment.l0 (k + 3) s (m : Int) (i : Int) = (if foldAt (c :: l) = true then (lex_comment.l0 (k + 2) s (m : Int) ((i + 2 : Nat) : Int)) else (if (c.toNat : Int) = 92 then (if escL l = 0 then (lex_comment.l0 (k + 2) s (m : Int) ((i + 2 : Nat) : Int)) else some ((⟨#[]⟩ : ByteArray), escL l)) else (if (c.toNat : Int) = 40 then lex_comment.j1 (k + 2) s (m : Int) (i : Int) (c.toNat : Int) ((m : Int) == 16) else lex_comment.j1 (k + 2) s (m : Int) (i : Int) (c.toNat : Int) false))) := by
      rw [lex_comment.l0, if_pos (by omega), if_pos (by omega), if_pos (by omega)]
      simp only [Int.toNat_natCast]
      rw [lexfold_is _ (by simp only [ByteArray.size_extract]; omega), bs_rest, hd, Option.bind_some]
      cases hf : foldAt (c :: l) with
      | true => rw [if_pos rfl, if_pos rfl, e2]
      | false =>
        rw [if_neg (c := false = true) (by decide), if_neg (c := false = true) (by decide), bt_drop hd]
        by_cases c92 : (c.toNat : Int) = 92
        · rw [if_pos c92, if_pos c92, e1, if_pos (by omega), if_pos (by omega)]
          simp only [Int.toNat_natCast]
          rw [lexescaped_is, bs_rest, h3, Option.bind_some, wrap_succ (i + 1) (by omega)]
        · rw [if_neg c92, if_neg c92]
    cases hf : foldAt (c :: l) with
    | true =>
      obtain ⟨t1, t2, t3⟩ := tail_drop hd hf
      rw [hf, if_pos rfl] at hstart
      refine (lexcomment_l0 s hs n (k + 2) (i + 2) m l.tail (by omega) (by omega) t1 t2 hm1 hm2).le hstart (by simp; omega) (fun acc => ?_)
      rw [scanL_cons]
      unfold step
      simp only []
      rw [hf, if_pos rfl]
    | false =>
      rw [hf, if_neg (by decide)] at hstart
      by_cases c92 : c = 92
      · rw [if_pos (by rw [c92]; rfl)] at hstart
        have hst : ∀ acc, scanL acc (.comm m false) (c :: l) = scanL acc (.comm m true) l := by
          intro acc
          rw [scanL_cons]
          unfold step
          simp only []
          rw [hf, if_neg (by decide), if_pos c92]
        cases hl : l with
        | nil =>
          rw [hl] at hstart
          refine .inr ⟨9, by decide, hstart.trans rfl, fun acc => ?_⟩
          rw [← hl, hst, hl]
          rfl
        | cons x l2 =>
          have hdx : (bs s).drop (i + 1) = x :: l2 := by rw [h3, hl]
          obtain ⟨g1, g2, g3, g4⟩ := drop_cons hdx
          have hsx : ∀ acc, scanL acc (.comm m false) (c :: x :: l2) = if text x = true then scanL acc (.comm m false) l2 else ([], 3) := by
            intro acc
            rw [← hl, hst, hl, scanL_cons]
            unfold step
            cases text x <;> rfl
          rw [hl] at hstart hn
          simp only [List.length_cons] at hn
          cases ht : text x with
          | true =>
            rw [show escL (x :: l2) = 0 by show (if text x = true then (0 : Int) else 3) = 0; rw [ht]; rfl, if_pos rfl] at hstart
            refine (lexcomment_l0 s hs n (k + 2) (i + 2) m l2 (by omega) (by omega) g3 (by omega) hm1 hm2).le hstart (by simp; omega) (fun acc => ?_)
            rw [hsx, ht, if_pos rfl]
          | false =>
            rw [show escL (x :: l2) = 3 by show (if text x = true then (0 : Int) else 3) = 3; rw [ht]; rfl, if_neg (by decide)] at hstart
            exact .inr ⟨3, by decide, hstart, fun acc => by rw [hsx, ht]; rfl⟩
      · rw [if_neg (c := (c.toNat : Int) = 92) (fun h => c92 ((byte_ofNat c 92 (by decide)).1 h))] at hstart
        have hst : text c = true → ∀ acc, scanL acc (.comm m false) (c :: l) = (match commAfter acc (if c = 40 then m + 1 else if c = 41 then m - 1 else m) l with | .inl (a, t, r) => scanL a t r | .inr e => ([], e)) := by
          intro ht acc
          rw [scanL_cons]
          unfold step
          simp only []
          rw [hf, ht, if_neg (by decide), if_neg c92, if_pos rfl]
          all_goals rfl
        by_cases c40 : c = 40
        · have ht : text c = true := by rw [c40]; exact text_40
          rw [if_pos (by rw [c40]; rfl), lex_comment.j1] at hstart
          by_cases h16 : m = 16
          · rw [show ((m : Int) == 16) = true by rw [h16]; rfl, if_pos rfl] at hstart
            refine .inr ⟨1, by decide, hstart, fun acc => ?_⟩
            rw [hst ht, if_pos c40]
            unfold commAfter
            rw [if_pos (by omega)]
          · rw [show ((m : Int) == 16) = false by rw [beq_eq_false_iff_ne]; omega, if_neg (by decide), if_pos (by rw [c40]; rfl), e1, wrap_id (by omega) (by omega), show ((m : Int) + 1) = ((m + 1 : Nat) : Int) by omega] at hstart
            refine (lexcomment_l0 s hs n (k + 1) (i + 1) (m + 1) l (by omega) (by omega) h3 (by omega) (by omega) (by omega)).le hstart (by simp) (fun acc => ?_)
            rw [hst ht, if_pos c40]
            unfold commAfter
            rw [if_neg (by omega), if_neg (by omega)]
        · rw [if_neg (c := (c.toNat : Int) = 40) (fun h => c40 ((byte_ofNat c 40 (by decide)).1 h)), lex_comment.j1, if_neg (by decide), if_neg (c := (c.toNat : Int) = 40) (fun h => c40 ((byte_ofNat c 40 (by decide)).1 h))] at hstart
          by_cases c41 : c = 41
          · have ht : text c = true := by rw [c41]; exact text_41
            rw [if_pos (by rw [c41]; rfl), lex_comment.j2] at hstart
            by_cases h1' : m = 1
            · rw [show ((m : Int) == 1) = true by rw [h1']; rfl, if_pos rfl, e1, if_pos (by omega), if_pos (by omega), if_neg (by decide)] at hstart
              simp only [Int.toNat_natCast] at hstart
              rw [str_rest, h3] at hstart
              refine .inl ⟨l, hstart, by simp, fun acc => ?_⟩
              rw [hst ht, if_neg c40, if_pos c41, h1']
              rfl
            · rw [show ((m : Int) == 1) = false by rw [beq_eq_false_iff_ne]; omega, if_neg (by decide), if_pos (by rw [c41]; rfl), e1, wrap_id (by omega) (by omega), show ((m : Int) - 1) = ((m - 1 : Nat) : Int) by omega] at hstart
              refine (lexcomment_l0 s hs n k (i + 1) (m - 1) l (by omega) (by omega) h3 (by omega) (by omega) (by omega)).le hstart (by simp) (fun acc => ?_)
              rw [hst ht, if_neg c40, if_pos c41]
              unfold commAfter
              rw [if_neg (by omega), if_neg (by omega)]
          · rw [if_neg (c := (c.toNat : Int) = 41) (fun h => c41 ((byte_ofNat c 41 (by decide)).1 h)), lex_comment.j2, if_neg (by decide), if_neg (c := (c.toNat : Int) = 41) (fun h => c41 ((byte_ofNat c 41 (by decide)).1 h)), text_is, Option.bind_some] at hstart
            cases ht : text c with
            | true =>
              rw [ht, if_pos rfl, e1] at hstart
              refine (lexcomment_l0 s hs n k (i + 1) m l (by omega) (by omega) h3 (by omega) hm1 hm2).le hstart (by simp) (fun acc => ?_)
              rw [hst ht, if_neg c40, if_neg c41]
              unfold commAfter
              rw [if_neg (by omega), if_neg (by omega)]
            | false =>
              rw [ht, if_neg (by decide)] at hstart
              refine .inr ⟨3, by decide, hstart, fun acc => ?_⟩
              rw [scanL_cons]
              unfold step
              simp only []
              rw [hf, ht, if_neg (by decide), if_neg c92, if_neg (by decide)]

theorem lexatom_l0 (s : ByteArray) (hs : s.size ≤ 1000000) : ∀ (n k i : Nat) (l : Bytes), l.length ≤ n → n + 1 ≤ k → (bs s).drop i = l → i ≤ (bs s).length → 1 ≤ i →
    ∃ j, i ≤ j ∧ j ≤ (bs s).length ∧ lex_next.l0 k s (i : Int) = some (1, str ((bs s).take j), str ((bs s).drop j), 0) ∧ ∀ acc, scanL acc (.atom ((bs s).take i)) l = scanL (acc ++ [(1, (bs s).take j)]) .out ((bs s).drop j)
  | n, k, i, [], hn, hk, hd, hi, h1 => by
    obtain ⟨k, rfl⟩ : ∃ j, k = j + 1 := ⟨k - 1, by omega⟩
    have := drop_nil hd
    have hl := bs_length s
    refine ⟨i, Nat.le_refl _, hi, ?_, fun acc => by rw [hd]; rfl⟩
    rw [lex_next.l0, if_neg (by omega), if_neg (by omega), if_pos (by omega), if_pos (by omega)]
    simp only [Int.toNat_natCast]
    rw [str_rest, show s.extract 0 i = str ((bs s).take i) by apply bs_inj; rw [bs_extract, bs_str, List.drop_zero]]
  | 0, k, i, c :: l, hn, hk, hd, hi, h1 => by simp at hn
  | n + 1, k, i, c :: l, hn, hk, hd, hi, h0 => by
    obtain ⟨k, rfl⟩ : ∃ j, k = j + 1 := ⟨k - 1, by omega⟩
    obtain ⟨h1, h2, h3, h4⟩ := drop_cons hd
    have h5 : i < s.size := by rw [bs_length] at h1; exact h1
    simp only [List.length_cons] at hn
    cases ha : atomic c with
    | true =>
      obtain ⟨j, q1, q2, q3, q4⟩ := lexatom_l0 s hs n k (i + 1) l (by omega) (by omega) h3 (by omega) (by omega)
      refine ⟨j, by omega, q2, ?_, fun acc => ?_⟩
      · rw [lex_next.l0, if_pos (by omega), if_pos (by omega), bt_drop hd, atomic_is, Option.bind_some, ha, if_pos rfl, wrap_succ i (by omega)]
        exact q3
      · rw [scanL_cons]
        unfold step
        simp only []
        rw [ha, if_pos rfl, ← h4]
        exact q4 acc
    | false =>
      refine ⟨i, Nat.le_refl _, by omega, ?_, fun acc => ?_⟩
      · rw [lex_next.l0, if_pos (by omega), if_pos (by omega), bt_drop hd, atomic_is, Option.bind_some, ha, if_neg (by decide), if_neg (by omega), if_pos (by omega)]
        simp only [Int.toNat_natCast]
        rw [str_rest, show s.extract 0 i = str ((bs s).take i) by apply bs_inj; rw [bs_extract, bs_str, List.drop_zero]]
      · rw [hd, scanL_cons, scanL_cons]
        unfold step
        simp only []
        rw [ha, if_neg (by decide)]
theorem wrap_01 : wrap64 ((0 : Int) + 1) = ((1 : Nat) : Int) := wrap_succ 0 (by decide)
theorem lexnext_is (s : ByteArray) (hs : s.size ≤ 1000000) (c : UInt8) (l : Bytes) (hb : bs s = c :: l) (k : Nat) (hk : 3 * s.size + 10 ≤ k) :
    (∃ (kd : Int) (t r : Bytes), lex_next.f k s = some (kd, str t, str r, 0) ∧ r.length ≤ l.length ∧ ∀ acc, scanL acc .out (c :: l) = scanL (if kd = 0 then acc else acc ++ [(kd, t)]) .out r) ∨
    (∃ (kd : Int) (t : Bytes) (r : ByteArray) (e : Int), e ≠ 0 ∧ lex_next.f k s = some (kd, str t, r, e) ∧ ∀ acc, scanL acc .out (c :: l) = ([], e)) := by
  have hlen := bs_length s
  rw [hb] at hlen
  simp only [List.length_cons] at hlen
  have hd : (bs s).drop 0 = c :: l := by rw [hb]; rfl
  have hd1 : (bs s).drop 1 = l := (drop_cons hd).2.2.1
  have hbt : bt s 0 = (c.toNat : Int) := bt_drop hd
  have eE : s.extract 1 s.size = str l := by rw [str_rest, hd1]
  have hsc : ∀ acc, scanL acc .out (c :: l) = (match stepOut acc c l with | .inl (a, t, r) => scanL a t r | .inr e => ([], e)) := by
    intro acc
    rw [scanL_cons]
    rfl
  have hout : ∀ (a b d e f g : Bool), foldAt (c :: l) = a → atomic c = b → signB c = f → whiteB c = g → ∀ acc, stepOut acc c l = if a = true then .inl (acc, .out, l.tail) else if b = true then .inl (acc, .atom [c], l) else if c = 34 then .inl (acc, .quot [] false, l) else if c = 40 then .inl (acc, .comm 1 false, l) else if f = true then .inl (acc ++ [(3, [c])], .out, l) else if g = true then .inl (acc, .out, l) else .inr 3 := by
    intro a b d e f g h1 h2 h3 h4 acc
    unfold stepOut
    rw [h1, h2, h3, h4]
  unfold lex_next.f
  rw [if_pos (by omega), hbt, lexwhite_is, Option.bind_some]
  cases hw : whiteB c with
  | true =>
    obtain ⟨n13, n40, n34, na, ns⟩ := white_apart c hw
    have hf := fold_not n13 l
    rw [if_pos rfl, if_pos (by omega), eE]
    refine .inl ⟨0, [], l, rfl, Nat.le_refl _, fun acc => ?_⟩
    rw [hsc, hout false false false false false true hf na ns hw, if_neg (by decide), if_neg (by decide), if_neg n34, if_neg n40, if_neg (by decide), if_pos rfl, if_pos rfl]
  | false =>
    rw [if_neg (by decide), lexfold_is s hs, Option.bind_some, hb]
    cases hf : foldAt (c :: l) with
    | true =>
      obtain ⟨t1, t2, t3⟩ := tail_drop hd hf
      rw [bs_length] at t2
      rw [if_pos rfl, if_pos (by omega), show s.extract 2 s.size = str l.tail by rw [str_rest]; congr 1]
      refine .inl ⟨0, [], l.tail, rfl, by simp, fun acc => ?_⟩
      rw [hsc, hout true _ false false _ _ hf rfl rfl rfl, if_pos rfl, if_pos rfl]
    | false =>
      rw [if_neg (c := false = true) (by decide)]
      by_cases c40 : c = 40
      · have na : atomic c = false := by rw [c40]; decide +kernel
        rw [if_pos (by rw [c40]; rfl)]
        obtain ⟨k, rfl⟩ : ∃ j, k = j + 2 := ⟨k - 2, by omega⟩
        have hcm : lex_comment.f (k + 2) s = lex_comment.l0 k s ((1 : Nat) : Int) ((1 : Nat) : Int) := by
          unfold lex_comment.f
          rw [lex_comment.l0, if_pos (by omega), if_pos (by decide), if_pos (by omega), show s.extract (0 : Int).toNat s.size = s from extract_all s, lexfold_is s hs, hb, hf, Option.bind_some, if_neg (by decide), hbt, if_neg (c := (c.toNat : Int) = 92) (by rw [c40]; decide), if_pos (by rw [c40]; rfl), show ((0 : Int) == 16) = false from rfl, lex_comment.j1, if_neg (by decide), if_pos (by rw [c40]; rfl), wrap_01]
        rw [hcm]
        have hso : ∀ acc, scanL acc .out (c :: l) = scanL acc (.comm 1 false) l := by
          intro acc
          rw [hsc, hout false false false false _ _ hf na rfl rfl, if_neg (by decide), if_neg (by decide), if_neg (by rw [c40]; decide), if_pos c40]
        rcases lexcomment_l0 s hs l.length k 1 1 l (Nat.le_refl _) (by omega) hd1 (by rw [hb]; simp) (by decide) (by decide) with ⟨r, h1, h2, h3⟩ | ⟨e, h1, h2, h3⟩
        · rw [h1]
          exact .inl ⟨0, [], r, rfl, h2, fun acc => by rw [hso, h3, if_pos rfl]⟩
        · rw [h2]
          exact .inr ⟨0, [], str [], e, h1, rfl, fun acc => by rw [hso, h3]⟩
      · rw [if_neg (c := (c.toNat : Int) = 40) (fun h => c40 ((byte_ofNat c 40 (by decide)).1 h))]
        by_cases c34 : c = 34
        · have na : atomic c = false := by rw [c34]; decide +kernel
          rw [if_pos (by rw [c34]; rfl)]
          have hso : ∀ acc, scanL acc .out (c :: l) = scanL acc (.quot [] false) l := by
            intro acc
            rw [hsc, hout false false false false _ _ hf na rfl rfl, if_neg (by decide), if_neg (by decide), if_pos c34]
          rcases lexquoted_l0 s hs l.length k 1 [] l (Nat.le_refl _) (by omega) hd1 (by rw [hb]; simp) (by simp) with ⟨w', r, h1, h2, h3⟩ | ⟨e, h1, h2, h3⟩
          · rw [show lex_quoted.f k s = lex_quoted.l0 k s (numsOf []) ((1 : Nat) : Int) from rfl, h1]
            exact .inl ⟨2, w', r, rfl, h2, fun acc => by rw [hso, h3, if_neg (by decide)]⟩
          · rw [show lex_quoted.f k s = lex_quoted.l0 k s (numsOf []) ((1 : Nat) : Int) from rfl, h2]
            exact .inr ⟨0, [], str [], e, h1, rfl, fun acc => by rw [hso, h3]⟩
        · rw [if_neg (c := (c.toNat : Int) = 34) (fun h => c34 ((byte_ofNat c 34 (by decide)).1 h)), lexsign_is, Option.bind_some]
          cases hsg : signB c with
          | true =>
            have na : atomic c = false := by
              cases ha : atomic c with
              | false => rfl
              | true => have := (atomic_apart c ha).2.2.2.2.2; rw [hsg] at this; cases this
            rw [if_pos rfl, if_pos (by decide), if_pos (by omega), eE, show s.extract 0 1 = str [c] from extract_one (i := 0) hd]
            refine .inl ⟨3, [c], l, rfl, Nat.le_refl _, fun acc => ?_⟩
            rw [hsc, hout false false false false true false hf na hsg hw, if_neg (by decide), if_neg (by decide), if_neg c34, if_neg c40, if_pos rfl, if_neg (by decide)]
          | false =>
            rw [if_neg (c := false = true) (by decide)]
            obtain ⟨k, rfl⟩ : ∃ j, k = j + 1 := ⟨k - 1, by omega⟩
            cases ha : atomic c with
            | false =>
              rw [lex_next.l0, if_pos (by omega), if_pos (by decide), hbt, atomic_is, ha, Option.bind_some, if_neg (by decide), if_pos rfl]
              refine .inr ⟨0, [], _, 3, by decide, rfl, fun acc => ?_⟩
              rw [hsc, hout false false false false false false hf ha hsg hw, if_neg (by decide), if_neg (by decide), if_neg c34, if_neg c40, if_neg (by decide), if_neg (by decide)]
            | true =>
              rw [lex_next.l0, if_pos (by omega), if_pos (by decide), hbt, atomic_is, ha, Option.bind_some, if_pos rfl, wrap_01]
              obtain ⟨j, q1, q2, q3, q4⟩ := lexatom_l0 s hs l.length k 1 l (Nat.le_refl _) (by omega) hd1 (by rw [hb]; simp) (by decide)
              rw [q3]
              refine .inl ⟨1, _, _, rfl, ?_, fun acc => ?_⟩
              · rw [hb]
                simp only [List.length_drop, List.length_cons]
                omega
              · rw [hsc, hout false true false false _ _ hf ha rfl rfl, if_neg (by decide), if_pos rfl, if_neg (by decide), ← q4 acc, hb]
                rfl
def tok142 (t : Tok) : S181 := ⟨t.1, str t.2⟩
theorem lexScan_l0 : ∀ (n k : Nat) (s : ByteArray) (acc : List Tok), s.size ≤ n → s.size ≤ 1000000 → 4 * n + 20 ≤ k → acc.length + s.size ≤ 1000000 →
    lex_Scan.l0 k s (acc.map tok142) = some ((scanL acc .out (bs s)).1.map tok142, (scanL acc .out (bs s)).2)
  | n, k, s, acc, hn, hs, hk, ha => by
    obtain ⟨k, rfl⟩ : ∃ j, k = j + 1 := ⟨k - 1, by omega⟩
    have hlen := bs_length s
    rw [lex_Scan.l0, toList_bs]
    cases hb : bs s with
    | nil => rw [if_pos rfl]; rfl
    | cons c l =>
      rw [hb] at hlen
      simp only [List.length_cons] at hlen
      obtain ⟨n, rfl⟩ : ∃ j, n = j + 1 := ⟨n - 1, by omega⟩
      rw [if_neg (by simp)]
      rcases lexnext_is s hs c l hb k (by omega) with ⟨kd, t, r, h1, h2, h3⟩ | ⟨kd, t, r, e, h0, h1, h3⟩
      · rw [h1, Option.bind_some, if_pos rfl, h3]
        by_cases hkd : kd = 0
        · rw [if_pos hkd, if_pos hkd, lexScan_l0 n k (str r) acc (by rw [str_size]; omega) (by rw [str_size]; omega) (by omega) (by rw [str_size]; omega), bs_str]
        · rw [if_neg hkd, if_neg hkd, if_pos (by rw [List.length_map]; omega), show acc.map tok142 ++ [(⟨kd, str t⟩ : S181)] = (acc ++ [(kd, t)]).map tok142 by simp [tok142],
            lexScan_l0 n k (str r) (acc ++ [(kd, t)]) (by rw [str_size]; omega) (by rw [str_size]; omega) (by omega) (by rw [str_size]; simp; omega), bs_str]
      · rw [h1, Option.bind_some, if_neg h0, h3]
        rfl
theorem lexScan_is (s : ByteArray) (hs : s.size ≤ 1000000) (k : Nat) (hk : 4 * s.size + 20 ≤ k) : lex_Scan.f k s = some ((scanL [] .out (bs s)).1.map tok142, (scanL [] .out (bs s)).2) := by
  have := lexScan_l0 s.size k s [] (Nat.le_refl _) hs hk (by simpa using hs)
  unfold lex_Scan.f
  exact this
end Go.Proofs.YtgaaogijfikfeaaDoor.Pl
set_option linter.unusedVariables false
set_option linter.unusedSimpArgs false
namespace Go.Proofs.YtgaaogijfikfeaaDoor.Pl
open Go.RowKit Go.Proofs.YtgaaogijfikfeaaDoorW.PrintWords Go.Proofs.YtgaaogijfikfeaaDoor.Fn

/-! The reference's glyph functions, as the plain ones. -/
end Go.Proofs.YtgaaogijfikfeaaDoor.Pl
set_option linter.unusedVariables false
namespace Go.Proofs.YtgaaogijfikfeaaDoor.Pl
open Go.RowKit Go.Proofs.YtgaaogijfikfeaaDoorW.PrintWords Go.Proofs.YtgaaogijfikfeaaDoor.Fn

/-! The document's labels, domains, right addresses. -/
def labN (n : Int) : Prop := (97 ≤ n ∧ n ≤ 122) ∨ (65 ≤ n ∧ n ≤ 90) ∨ (48 ≤ n ∧ n ≤ 57) ∨ n = 45
instance (n : Int) : Decidable (labN n) := by unfold labN; infer_instance
end Go.Proofs.YtgaaogijfikfeaaDoor.Pl
-- written by xprint.py of this session over the kit's printer; not trusted: Lean checks it
namespace Go.Proofs.YtgaaogijfikfeaaDoor.Fn
open Go.RowKit Go.Proofs.YtgaaogijfikfeaaDoorW.PrintWords Go.Proofs.YtgaaogijfikfeaaDoorW.PrintLast Go.Proofs.YtgaaogijfikfeaaDoorW.PrintMore
attribute [local go_sem] max2_int min2_int max_two min_two max_three min_three max_four min_four   -- for this text's walks alone
set_option linter.unusedVariables false
set_option linter.unusedSimpArgs false

/-! ### bulletinref13_Of: function 97 -/
mutual
def bulletinref13_Of.l0 : Nat → List (S160) → Int → Int → Option (ByteArray × ByteArray × Int)
 | 0, _, _, _ => none
 | k + 1, x0, x4, x5 => if x5 < (x0.length : Int) then (if 0 ≤ x5 then (if ((rd_T160 x0 x5).f0) = 3 then (if ((rd_T160 x0 x5).f1).toList = ([64] : List UInt8) then (if x4 < 0 then (bulletinref13_Of.l0 k x0 x5 (wrap64 (x5 + 1))) else (bulletinref13_Of.l0 k x0 x4 (wrap64 (x5 + 1)))) else (bulletinref13_Of.l0 k x0 x4 (wrap64 (x5 + 1)))) else (bulletinref13_Of.l0 k x0 x4 (wrap64 (x5 + 1)))) else (none)) else (if x4 < 0 then (some ((⟨#[]⟩ : ByteArray), (⟨#[]⟩ : ByteArray), 130)) else (bulletinref13_Of.l1 k x0 x4 0 (⟨#[]⟩ : ByteArray) (⟨#[]⟩ : ByteArray)))
def bulletinref13_Of.l1 : Nat → List (S160) → Int → Int → ByteArray → ByteArray → Option (ByteArray × ByteArray × Int)
 | 0, _, _, _, _, _ => none
 | k + 1, x0, x4, x7, x630000, x630001 => if x7 < (x0.length : Int) then (if 0 ≤ x7 then (if x7 > x4 then (bulletinref13_Of.j2 k x0 x4 x7 (wrap64 ((wrap64 (x7 - x4)) - 1)) x630000 x630001 ((rd_T160 x0 x7).f0) ((rd_T160 x0 x7).f1)) else (bulletinref13_Of.j2 k x0 x4 x7 x7 x630000 x630001 ((rd_T160 x0 x7).f0) ((rd_T160 x0 x7).f1))) else (none)) else (if (Int.tmod x4 2) = 0 then (bulletinref13_Of.j5 k true x630000 x630001) else (bulletinref13_Of.j5 k ((Int.tmod (wrap64 ((wrap64 ((x0.length : Int) - x4)) - 1)) 2) == 0) x630000 x630001))
def bulletinref13_Of.j2 : Nat → List (S160) → Int → Int → Int → ByteArray → ByteArray → Int → ByteArray → Option (ByteArray × ByteArray × Int)
 | 0, _, _, _, _, _, _, _, _ => none
 | k + 1, x0, x4, x7, x9, x630000, x630001, x632000, x632001 => if x7 = x4 then (bulletinref13_Of.j3 k x0 x4 x7 x9 false x630000 x630001 x632000 x632001) else (if (Int.tmod x9 2) = 1 then (if x632000 = 3 then (bulletinref13_Of.j3 k x0 x4 x7 x9 (x632001.toList != ([46] : List UInt8)) x630000 x630001 x632000 x632001) else (bulletinref13_Of.j3 k x0 x4 x7 x9 true x630000 x630001 x632000 x632001)) else (bulletinref13_Of.j3 k x0 x4 x7 x9 false x630000 x630001 x632000 x632001))
def bulletinref13_Of.j3 : Nat → List (S160) → Int → Int → Int → Bool → ByteArray → ByteArray → Int → ByteArray → Option (ByteArray × ByteArray × Int)
 | 0, _, _, _, _, _, _, _, _, _ => none
 | k + 1, x0, x4, x7, x9, x75, x630000, x630001, x632000, x632001 => if x75 = true then (some ((⟨#[]⟩ : ByteArray), (⟨#[]⟩ : ByteArray), 130)) else (if x7 = x4 then (bulletinref13_Of.j4 k x0 x4 x7 false x630000 x630001 x632000 x632001) else (if (Int.tmod x9 2) = 0 then (if x632000 = 3 then (bulletinref13_Of.j4 k x0 x4 x7 true x630000 x630001 x632000 x632001) else (if x7 > x4 then (bulletinref13_Of.j4 k x0 x4 x7 (x632000 != 1) x630000 x630001 x632000 x632001) else (bulletinref13_Of.j4 k x0 x4 x7 false x630000 x630001 x632000 x632001))) else (bulletinref13_Of.j4 k x0 x4 x7 false x630000 x630001 x632000 x632001)))
def bulletinref13_Of.j4 : Nat → List (S160) → Int → Int → Bool → ByteArray → ByteArray → Int → ByteArray → Option (ByteArray × ByteArray × Int)
 | 0, _, _, _, _, _, _, _, _ => none
 | k + 1, x0, x4, x7, x99, x630000, x630001, x632000, x632001 => if x99 = true then (some ((⟨#[]⟩ : ByteArray), (⟨#[]⟩ : ByteArray), 130)) else (if x7 < x4 then (if x630000.size + x632001.size ≤ 9223372036854775807 then (if x7 > x4 then (if x630001.size + x632001.size ≤ 9223372036854775807 then (bulletinref13_Of.l1 k x0 x4 (wrap64 (x7 + 1)) (x630000 ++ x632001) (x630001 ++ x632001)) else (none)) else (bulletinref13_Of.l1 k x0 x4 (wrap64 (x7 + 1)) (x630000 ++ x632001) x630001)) else (none)) else (if x7 > x4 then (if x630001.size + x632001.size ≤ 9223372036854775807 then (bulletinref13_Of.l1 k x0 x4 (wrap64 (x7 + 1)) x630000 (x630001 ++ x632001)) else (none)) else (bulletinref13_Of.l1 k x0 x4 (wrap64 (x7 + 1)) x630000 x630001)))
def bulletinref13_Of.j5 : Nat → Bool → ByteArray → ByteArray → Option (ByteArray × ByteArray × Int)
 | 0, _, _, _ => none
 | k + 1, x130, x630000, x630001 => if x130 = true then (some ((⟨#[]⟩ : ByteArray), (⟨#[]⟩ : ByteArray), 130)) else ((bulletinref06_Fold.f k x630001).bind fun t632 => ((bulletinref13_Why.f k x630000 t632).bind fun t633 => (if t633 = 0 then (some (x630000, t632, 0)) else (some ((⟨#[]⟩ : ByteArray), (⟨#[]⟩ : ByteArray), t633)))))
end
end Go.Proofs.YtgaaogijfikfeaaDoor.Fn
set_option linter.unusedVariables false
namespace Go.Proofs.YtgaaogijfikfeaaDoor.Pl
open Go.RowKit Go.Proofs.YtgaaogijfikfeaaDoorW.PrintWords Go.Proofs.YtgaaogijfikfeaaDoor.Fn

/-! Layer 13: the address that tokens are. -/
def isT (t : Tok) (s : Bytes) : Bool := t.1 == 3 && t.2 == s
def wordT (t : Tok) : Bool := t.1 != 3
def atomT (t : Tok) : Bool := t.1 != 3 && t.1 == 1
def altOk (p : Tok → Bool) : List Tok → Bool
  | [] => false
  | [x] => p x
  | x :: d :: r => p x && isT d [46] && altOk p r
def cat (l : List Tok) : Bytes := l.flatMap (·.2)
def atSplit : List Tok → Option (List Tok × List Tok)
  | [] => none
  | t :: r => if isT t [64] = true then some ([], r) else (atSplit r).map fun x => (t :: x.1, x.2)
abbrev Res := ByteArray × ByteArray × Int
def finish (a b : Bytes) : Res := if why (str a) (str (fold b)) = 0 then (str a, str (fold b), 0) else (str [], str [], why (str a) (str (fold b)))
def noAddr : Res := (str [], str [], 130)
def ofT (l : List Tok) : Res := match atSplit l with
  | none => noAddr
  | some (A, B) => if altOk wordT A = true ∧ altOk atomT B = true then finish (cat A) (cat B) else noAddr

theorem atSplit_some {l A B : List Tok} (h : atSplit l = some (A, B)) : ∃ t, isT t [64] = true ∧ l = A ++ t :: B ∧ ∀ x ∈ A, isT x [64] = false := by
  induction l generalizing A B with
  | nil => cases h
  | cons t r ih =>
    rw [atSplit] at h
    by_cases ht : isT t [64] = true
    · rw [if_pos ht] at h
      cases h
      exact ⟨t, ht, rfl, by simp⟩
    · rw [if_neg ht] at h
      cases hr : atSplit r with
      | none => rw [hr] at h; cases h
      | some x =>
        obtain ⟨A', B'⟩ := x
        rw [hr] at h
        simp only [Option.map_some, Option.some.injEq, Prod.mk.injEq] at h
        obtain ⟨rfl, rfl⟩ := h
        obtain ⟨u, h1, h2, h3⟩ := ih hr
        refine ⟨u, h1, by rw [h2]; rfl, ?_⟩
        intro x hx
        rcases List.mem_cons.1 hx with e | e
        · rw [e]; simpa using ht
        · exact h3 x e
theorem atSplit_of {A B : List Tok} {t : Tok} (ht : isT t [64] = true) (hA : ∀ x ∈ A, isT x [64] = false) : atSplit (A ++ t :: B) = some (A, B) := by
  induction A with
  | nil => rw [List.nil_append, atSplit, if_pos ht]
  | cons a A ih =>
    rw [List.cons_append, atSplit, if_neg (by rw [hA a (by simp)]; decide), ih (fun x hx => hA x (List.mem_cons_of_mem _ hx))]
    rfl

/-! the program's: words joined by dots, as long as they go on -/
def jn (p : Tok → Bool) : List Tok → Option (Bytes × List Tok)
  | [] => none
  | [x] => if p x = true then some (x.2, []) else none
  | x :: d :: r => if p x = true then (if isT d [46] = true then (jn p r).map fun y => (x.2 ++ d.2 ++ y.1, y.2) else some (x.2, d :: r)) else none
theorem jn_some (p : Tok → Bool) : ∀ {l : List Tok} {s : Bytes} {q : List Tok}, jn p l = some (s, q) → ∃ A, l = A ++ q ∧ altOk p A = true ∧ s = cat A
  | [], s, q, h => by cases h
  | [x], s, q, h => by
    rw [jn] at h
    by_cases hp : p x = true
    · rw [if_pos hp] at h
      simp only [Option.some.injEq, Prod.mk.injEq] at h
      obtain ⟨rfl, rfl⟩ := h
      exact ⟨[x], rfl, hp, by simp [cat]⟩
    · rw [if_neg hp] at h; cases h
  | x :: d :: r, s, q, h => by
    rw [jn] at h
    by_cases hp : p x = true
    · rw [if_pos hp] at h
      by_cases hd : isT d [46] = true
      · rw [if_pos hd] at h
        cases hr : jn p r with
        | none => rw [hr] at h; cases h
        | some y =>
          obtain ⟨s', q'⟩ := y
          rw [hr] at h
          simp only [Option.map_some, Option.some.injEq, Prod.mk.injEq] at h
          obtain ⟨rfl, rfl⟩ := h
          obtain ⟨A, h1, h2, h3⟩ := jn_some p hr
          refine ⟨x :: d :: A, by rw [h1]; rfl, ?_, ?_⟩
          · rw [altOk, hp, hd, h2]; rfl
          · rw [h3]; simp [cat]
      · rw [if_neg hd] at h
        simp only [Option.some.injEq, Prod.mk.injEq] at h
        obtain ⟨rfl, rfl⟩ := h
        exact ⟨[x], rfl, hp, by simp [cat]⟩
    · rw [if_neg hp] at h; cases h
theorem jn_of (p : Tok → Bool) : ∀ (A q : List Tok), altOk p A = true → (∀ d r, q = d :: r → isT d [46] = false) → jn p (A ++ q) = some (cat A, q)
  | [], q, h, _ => by cases h
  | [x], q, h, hq => by
    have hp : p x = true := h
    cases q with
    | nil => rw [List.append_nil, jn, if_pos hp]; simp [cat]
    | cons d r =>
      rw [show [x] ++ d :: r = x :: d :: r from rfl, jn, if_pos hp, if_neg (by rw [hq d r rfl]; decide)]
      simp [cat]
  | x :: d :: A, q, h, hq => by
    rw [altOk, Bool.and_eq_true, Bool.and_eq_true] at h
    rw [show (x :: d :: A) ++ q = x :: d :: (A ++ q) from rfl, jn, if_pos h.1.1, if_pos h.1.2, jn_of p A q h.2 hq]
    simp [cat]
def resJ (w : Bytes) : Option (Bytes × List Tok) → ByteArray × List S181 × Bool
  | none => (str [], [], false)
  | some (s, q) => (str (w ++ s), q.map tok142, true)
def pOf (b : Bool) : Tok → Bool := fun t => if b = true then atomT t else wordT t
theorem rd142_0 (x : Tok) (r : List Tok) : rd_T181 ((x :: r).map tok142) 0 = tok142 x := rfl
theorem beq_str (t : Bytes) (a : Array UInt8) : ((str t).toList == (⟨a⟩ : ByteArray).toList) = (t == a.toList) := by
  rw [toList_str, toList_bs]
  rfl
def headIs (l : List Tok) (s : Bytes) : Bool := match l with | [] => false | t :: _ => isT t s
theorem addris_is (l : List Tok) (a : Array UInt8) : addr_is.f (l.map tok142) (⟨a⟩ : ByteArray) = some (headIs l a.toList) := by
  unfold addr_is.f
  cases l with
  | nil => rw [if_neg (by simp)]; rfl
  | cons t r =>
    rw [if_pos (by simp <;> omega), if_pos (by simp <;> omega), rd142_0]
    unfold headIs isT tok142
    simp only []
    rw [beq_str]
theorem joined_is (b : Bool) : ∀ (n k : Nat) (l : List Tok) (w : Bytes), l.length ≤ n → 2 * n + 2 ≤ k → w.length + (cat l).length ≤ 1000000 →
    addr_joined.l0 k (l.map tok142) b (str w) = some (resJ w (jn (pOf b) l))
  | n, k, [], w, hn, hk, hw => by
    obtain ⟨k, rfl⟩ : ∃ j, k = j + 2 := ⟨k - 2, by omega⟩
    rw [addr_joined.l0, if_pos (by simp), addr_joined.j1, if_pos rfl]
    rfl
  | 0, k, x :: r, w, hn, hk, hw => by simp at hn
  | n + 1, k, x :: r, w, hn, hk, hw => by
    obtain ⟨k, rfl⟩ : ∃ j, k = j + 2 := ⟨k - 2, by omega⟩
    simp only [List.length_cons] at hn
    have hsel : addr_joined.l0 (k + 2) ((x :: r).map tok142) b (str w) = addr_joined.j1 (k + 1) ((x :: r).map tok142) b (str w) (!(pOf b x)) := by
      rw [addr_joined.l0, if_neg (by simp <;> omega), if_pos (by simp <;> omega), rd142_0]
      have e3 : ((tok142 x).f0 = 3) = (x.1 = 3) := rfl
      unfold pOf atomT wordT
      by_cases h3 : x.1 = 3
      · rw [if_pos (by rw [e3]; exact h3)]
        cases b <;> simp [h3]
      · rw [if_neg (by rw [e3]; exact h3)]
        have q3 : (x.1 == 3) = false := by simpa using h3
        cases b with
        | true => rw [if_pos rfl]; simp [q3, tok142, bne]
        | false => rw [if_neg (by decide)]; simp [q3, bne]
    have hc : (cat (x :: r)).length = x.2.length + (cat r).length := by simp [cat]
    rw [hsel, addr_joined.j1]
    cases hp : pOf b x with
    | false =>
      rw [show (!false) = true from rfl, if_pos rfl]
      have : jn (pOf b) (x :: r) = none := by
        cases r with
        | nil => rw [jn, if_neg (by rw [hp]; decide)]
        | cons d r => rw [jn, if_neg (by rw [hp]; decide)]
      rw [this]
      rfl
    | true =>
      rw [show (!true) = false from rfl, if_neg (by decide), if_pos (by simp <;> omega), rd142_0, show (tok142 x).f1 = str x.2 from rfl, str_app, if_pos (by rw [str_size, str_size]; omega), if_pos (by simp <;> omega), Option.bind_some,
        show ((x :: r).map tok142).drop 1 = r.map tok142 from rfl, addris_is, Option.bind_some]
      cases r with
      | nil =>
        rw [show headIs [] (#[46] : Array UInt8).toList = false from rfl, if_neg (by decide), jn, if_pos hp]
        rfl
      | cons d r =>
        simp only [List.length_cons] at hn
        have hc2 : (cat (d :: r)).length = d.2.length + (cat r).length := by simp [cat]
        rw [jn, if_pos hp]
        cases hd : isT d [46] with
        | false =>
          rw [show headIs (d :: r) (#[46] : Array UInt8).toList = isT d [46] from rfl, hd, if_neg (by decide), if_neg (by decide)]
          rfl
        | true =>
          have hd2 : d.2 = [46] := by
            unfold isT at hd
            rw [Bool.and_eq_true, beq_iff_eq, beq_iff_eq] at hd
            exact hd.2
          rw [show headIs (d :: r) (#[46] : Array UInt8).toList = isT d [46] from rfl, hd, if_pos rfl, if_pos (by rw [str_size]; rw [hd2] at hc2; simp at hc2 ⊢ <;> omega), if_pos (by simp <;> omega), if_pos rfl,
            show ((d :: r).map tok142).drop 1 = r.map tok142 from rfl, show (⟨#[46]⟩ : ByteArray) = str [46] from rfl, str_app]
          rw [joined_is b n k r (w ++ x.2 ++ [46]) (by omega) (by omega) (by rw [hd2] at hc2; simp at hc2 ⊢ <;> omega)]
          cases hj : jn (pOf b) r with
          | none => rfl
          | some y =>
            obtain ⟨s, q⟩ := y
            simp [resJ, hd2]
theorem no64 {p : Tok → Bool} (hp : ∀ t, p t = true → t.1 ≠ 3) : ∀ {A : List Tok}, altOk p A = true → ∀ x ∈ A, isT x [64] = false
  | [], h, x, hx => by cases hx
  | [y], h, x, hx => by
    have : x = y := by simpa using hx
    subst this
    have := hp x h
    unfold isT
    simp [this]
  | y :: d :: A, h, x, hx => by
    rw [altOk, Bool.and_eq_true, Bool.and_eq_true] at h
    rcases List.mem_cons.1 hx with e | e
    · rw [e]
      have := hp y h.1.1
      unfold isT
      simp [this]
    · rcases List.mem_cons.1 e with e | e
      · rw [e]
        have := h.1.2
        unfold isT at this ⊢
        rw [Bool.and_eq_true, beq_iff_eq, beq_iff_eq] at this
        rw [this.2]
        simp
      · exact no64 hp h.2 x e
theorem addrOf_is (l : List Tok) (hl : l.length ≤ 100000) (hc : (cat l).length ≤ 100000) (k : Nat) (hk : 2 * l.length + 400000 ≤ k) : addr_Of.f k (l.map tok142) = some (ofT l) := by
  obtain ⟨k, rfl⟩ : ∃ j, k = j + 2 := ⟨k - 2, by omega⟩
  have bad : ∀ (k : Nat) (x : List S181) (y : ByteArray), addr_Of.j0 (k + 1) x y true = some noAddr := by
    intro k x y
    rw [addr_Of.j0, if_pos rfl]
    rfl
  have bad1 : ∀ (k : Nat) (x y : ByteArray), addr_Of.j1 (k + 1) x y true = some noAddr := by
    intro k x y
    rw [addr_Of.j1, if_pos rfl]
    rfl
  unfold addr_Of.f addr_joined.f
  rw [show (⟨#[]⟩ : ByteArray) = str [] from rfl, joined_is false l.length (k + 2) l [] (Nat.le_refl _) (by omega) (by simp <;> omega), Option.bind_some]
  have hpf : pOf false = wordT := by funext t; rfl
  have hpt : pOf true = atomT := by funext t; rfl
  rw [hpf]
  have hword : ∀ t, wordT t = true → t.1 ≠ 3 := fun t h => by unfold wordT at h; simpa using h
  cases hj : jn wordT l with
  | none =>
    rw [show resJ [] none = (str [], [], false) from rfl, if_neg (by decide), bad]
    unfold ofT
    cases hs : atSplit l with
    | none => rfl
    | some x =>
      obtain ⟨A, B⟩ := x
      obtain ⟨t, h1, h2, h3⟩ := atSplit_some hs
      simp only []
      rw [if_neg]
      rintro ⟨g, _⟩
      have := jn_of wordT A (t :: B) g (fun d r e => by
        cases e
        unfold isT at h1 ⊢
        rw [Bool.and_eq_true, beq_iff_eq, beq_iff_eq] at h1
        rw [h1.2]
        simp)
      rw [← h2, hj] at this
      cases this
  | some y =>
    obtain ⟨s, q⟩ := y
    obtain ⟨A0, g1, g2, g3⟩ := jn_some wordT hj
    have hA0 := no64 hword g2
    rw [show resJ [] (some (s, q)) = (str s, q.map tok142, true) from rfl]
    simp only [if_true]
    rw [addris_is, Option.bind_some]
    have hother : (∀ t r, q = t :: r → isT t [64] = false) → ofT l = noAddr := by
      intro hq
      unfold ofT
      cases hs : atSplit l with
      | none => rfl
      | some x =>
        obtain ⟨A, B⟩ := x
        obtain ⟨t, h1, h2, h3⟩ := atSplit_some hs
        simp only []
        rw [if_neg]
        rintro ⟨g, _⟩
        have hh := jn_of wordT A (t :: B) g (fun d r e => by
          cases e
          unfold isT at h1 ⊢
          rw [Bool.and_eq_true, beq_iff_eq, beq_iff_eq] at h1
          rw [h1.2]
          simp)
        rw [← h2, hj] at hh
        simp only [Option.some.injEq, Prod.mk.injEq] at hh
        have := hq t B hh.2
        rw [h1] at this
        cases this
    cases q with
    | nil =>
      rw [hother (fun t r e => by cases e)]
      exact bad _ _ _
    | cons t B =>
      simp only []
      rw [show headIs (t :: B) (#[64] : Array UInt8).toList = isT t [64] from rfl]
      cases ht : isT t [64] with
      | false =>
        rw [hother (fun t' r e => by cases e; exact ht)]
        exact bad _ _ _
      | true =>
        have hsp : atSplit l = some (A0, B) := by rw [g1]; exact atSplit_of ht hA0
        have hcl : (cat l).length = (cat A0).length + (t.2.length + (cat B).length) := by rw [g1]; simp [cat]
        have hll : l.length = A0.length + (B.length + 1) := by rw [g1]; simp
        rw [show (!true) = false from rfl, addr_Of.j0, if_neg (by decide), if_pos (by simp <;> omega), show ((t :: B).map tok142).drop 1 = B.map tok142 from rfl]
        unfold addr_joined.f
        rw [show (⟨#[]⟩ : ByteArray) = str [] from rfl, joined_is true B.length (k + 1) B [] (Nat.le_refl _) (by omega) (by simp <;> omega), Option.bind_some, hpt]
        unfold ofT
        rw [hsp]
        simp only []
        cases hj2 : jn atomT B with
        | none =>
          rw [show resJ [] none = (str [], [], false) from rfl, if_neg (by decide), bad1, if_neg]
          rintro ⟨_, g⟩
          have := jn_of atomT B [] g (fun d r e => by cases e)
          rw [List.append_nil, hj2] at this
          cases this
        | some y =>
          obtain ⟨s2, q2⟩ := y
          obtain ⟨A2, f1, f2, f3⟩ := jn_some atomT hj2
          rw [show resJ [] (some (s2, q2)) = (str s2, q2.map tok142, true) from rfl]
          simp only [if_true]
          cases q2 with
          | cons d r =>
            rw [show decide (((((d :: r).map tok142).length : Nat) : Int) > 0) = true by simp <;> omega, bad1, if_neg]
            rintro ⟨_, g⟩
            have := jn_of atomT B [] g (fun d r e => by cases e)
            rw [List.append_nil, hj2] at this
            simp at this
          | nil =>
            rw [List.append_nil] at f1
            subst f1
            rw [show decide ((((([] : List Tok).map tok142).length : Nat) : Int) > 0) = false from rfl, addr_Of.j1, if_neg (by decide), if_pos ⟨g2, f2⟩, f3, g3]
            have hb : (cat B).length ≤ 100000 := by omega
            have ha : (cat A0).length ≤ 100000 := by omega
            rw [glyphFold_is _ (by rw [str_size]; omega), bs_str, Option.bind_some, addrWhy_is _ _ (by rw [str_size]; omega) (by rw [str_size, fold_length]; omega) k (by rw [str_size]; omega), Option.bind_some]
            unfold finish
            by_cases hw : why (str (cat A0)) (str (fold (cat B))) = 0
            · rw [if_pos hw, if_pos hw]
            · rw [if_neg hw, if_neg hw]
              rfl
end Go.Proofs.YtgaaogijfikfeaaDoor.Pl
set_option linter.unusedVariables false
set_option linter.unusedSimpArgs false
namespace Go.Proofs.YtgaaogijfikfeaaDoor.Pl
open Go.RowKit Go.Proofs.YtgaaogijfikfeaaDoorW.PrintWords Go.Proofs.YtgaaogijfikfeaaDoor.Fn

/-! how many tokens there are, and how long they are -/
def pend : Sc → Nat
  | .atom _ => 1
  | _ => 0
theorem cat_app (a b : List Tok) : cat (a ++ b) = cat a ++ cat b := by simp [cat]
theorem tail_len {c : UInt8} {l : Bytes} (h : foldAt (c :: l) = true) : l.tail.length + 1 = l.length := by
  cases l with
  | nil => cases h
  | cons b l => simp
theorem stepOut_bound {acc : List Tok} {c : UInt8} {l : Bytes} {a : List Tok} {t : Sc} {r : Bytes} (h : stepOut acc c l = .inl (a, t, r)) :
    a.length + pend t + r.length ≤ acc.length + (l.length + 1) ∧ (cat a).length + (wOf t).length + r.length ≤ (cat acc).length + (l.length + 1) := by
  unfold stepOut at h
  by_cases c1 : foldAt (c :: l) = true
  · rw [if_pos c1] at h
    have := tail_len c1
    simp only [Sum.inl.injEq, Prod.mk.injEq] at h
    obtain ⟨rfl, rfl, rfl⟩ := h
    simp only [pend, wOf, List.length_nil]
    omega
  · rw [if_neg c1] at h
    repeat' split at h
    all_goals (first | (cases h; done) | (simp only [Sum.inl.injEq, Prod.mk.injEq] at h; obtain ⟨rfl, rfl, rfl⟩ := h; simp only [pend, wOf, cat_app, List.length_append, List.length_nil, List.length_cons]; simp [cat]; try omega))
theorem step_bound {acc : List Tok} {st : Sc} {c : UInt8} {l : Bytes} {a : List Tok} {t : Sc} {r : Bytes} (h : step acc st c l = .inl (a, t, r)) :
    a.length + pend t + r.length ≤ acc.length + pend st + (l.length + 1) ∧ (cat a).length + (wOf t).length + r.length ≤ (cat acc).length + (wOf st).length + (l.length + 1) := by
  cases st with
  | out =>
    have := stepOut_bound h
    rw [show pend .out = 0 from rfl, show wOf .out = [] from rfl, List.length_nil]
    omega
  | atom w =>
    unfold step at h
    simp only [] at h
    by_cases ha : atomic c = true
    · rw [if_pos ha] at h
      simp only [Sum.inl.injEq, Prod.mk.injEq] at h
      obtain ⟨rfl, rfl, rfl⟩ := h
      simp only [pend, wOf, List.length_append, List.length_cons, List.length_nil]
      omega
    · rw [if_neg ha] at h
      have := stepOut_bound h
      rw [cat_app] at this
      rw [show pend (.atom w) = 1 from rfl, show wOf (.atom w) = w from rfl]
      simp only [List.length_append, List.length_cons, List.length_nil] at this ⊢
      have e : (cat [((1 : Int), w)]).length = w.length := by simp [cat]
      omega
  | quot w b =>
    cases b with
    | true =>
      unfold step at h
      simp only [] at h
      repeat' split at h
      all_goals (first | (cases h; done) | (simp only [Sum.inl.injEq, Prod.mk.injEq] at h; obtain ⟨rfl, rfl, rfl⟩ := h; simp only [pend, wOf, List.length_append, List.length_cons, List.length_nil]; omega))
    | false =>
      unfold step at h
      simp only [] at h
      by_cases c1 : foldAt (c :: l) = true
      · rw [if_pos c1] at h
        have := tail_len c1
        simp only [Sum.inl.injEq, Prod.mk.injEq] at h
        obtain ⟨rfl, rfl, rfl⟩ := h
        simp only [pend, wOf]
        omega
      · rw [if_neg c1] at h
        have e : (cat [((2 : Int), w)]).length = w.length := by simp [cat]
        repeat' split at h
        all_goals (first | (cases h; done) | (simp only [Sum.inl.injEq, Prod.mk.injEq] at h; obtain ⟨rfl, rfl, rfl⟩ := h; simp only [pend, wOf, cat_app, List.length_append, List.length_cons, List.length_nil]; omega))
  | comm d b =>
    cases b with
    | true =>
      unfold step at h
      simp only [] at h
      repeat' split at h
      all_goals (first | (cases h; done) | (simp only [Sum.inl.injEq, Prod.mk.injEq] at h; obtain ⟨rfl, rfl, rfl⟩ := h; simp only [pend, wOf, List.length_append, List.length_cons, List.length_nil]; omega))
    | false =>
      unfold step commAfter at h
      simp only [] at h
      by_cases c1 : foldAt (c :: l) = true
      · rw [if_pos c1] at h
        have := tail_len c1
        simp only [Sum.inl.injEq, Prod.mk.injEq] at h
        obtain ⟨rfl, rfl, rfl⟩ := h
        simp only [pend, wOf]
        omega
      · rw [if_neg c1] at h
        generalize (if c = 40 then d + 1 else if c = 41 then d - 1 else d) = d' at h
        repeat' split at h
        all_goals (first | (cases h; done) | (simp only [Sum.inl.injEq, Prod.mk.injEq] at h; obtain ⟨rfl, rfl, rfl⟩ := h; simp only [pend, wOf, List.length_nil]; omega))
theorem scan_bound : ∀ (k : Nat) (acc : List Tok) (st : Sc) (l : Bytes), l.length ≤ k →
    (scan k acc st l).1.length ≤ acc.length + pend st + l.length ∧ (cat (scan k acc st l).1).length ≤ (cat acc).length + (wOf st).length + l.length
  | k, acc, st, [], _ => by
    have e : scan k acc st [] = endOf acc st := by cases k <;> rfl
    rw [e]
    cases st <;> simp [endOf, pend, wOf, cat]
  | 0, acc, st, c :: l, h => by simp at h
  | k + 1, acc, st, c :: l, h => by
    rw [scan]
    simp only [List.length_cons] at h
    cases hs : step acc st c l with
    | inr e => simp [cat]
    | inl x =>
      obtain ⟨a, t, r⟩ := x
      have h1 := step_bound hs
      have h2 := step_le hs
      have ih := scan_bound k a t r (by omega)
      simp only [List.length_cons]
      omega
theorem scanL_bound (l : Bytes) : (scanL [] .out l).1.length ≤ l.length ∧ (cat (scanL [] .out l).1).length ≤ l.length := by
  have := scan_bound l.length [] .out l (Nat.le_refl _)
  unfold scanL
  simp only [List.length_nil, pend, wOf, cat, List.flatMap_nil] at this ⊢
  omega
theorem finish_size (a b : Bytes) : (finish a b).1.size ≤ a.length ∧ (finish a b).2.1.size ≤ b.length := by
  unfold finish
  split
  · simp only [str_size, fold_length]; omega
  · simp only [str_size, List.length_nil]; omega
theorem ofT_size (l : List Tok) : (ofT l).1.size ≤ (cat l).length ∧ (ofT l).2.1.size ≤ (cat l).length := by
  unfold ofT
  cases hs : atSplit l with
  | none => simp [noAddr, str_size]
  | some x =>
    obtain ⟨A, B⟩ := x
    obtain ⟨t, h1, h2, h3⟩ := atSplit_some hs
    have hcl : (cat l).length = (cat A).length + (t.2.length + (cat B).length) := by rw [h2]; simp [cat]
    simp only []
    split
    · have := finish_size (cat A) (cat B)
      omega
    · simp [noAddr, str_size]
def parseL (s : ByteArray) : Res := if (scanL [] .out (bs s)).2 = 0 then ofT (scanL [] .out (bs s)).1 else noAddr
theorem parseL_size (s : ByteArray) : (parseL s).1.size ≤ s.size ∧ (parseL s).2.1.size ≤ s.size := by
  have h := scanL_bound (bs s)
  have h2 := ofT_size (scanL [] .out (bs s)).1
  rw [bs_length] at h
  unfold parseL
  split
  · omega
  · simp [noAddr, str_size]
theorem addrParse_is (s : ByteArray) (hs : s.size ≤ 50000) (k : Nat) (hk : 1000000 ≤ k) : addr_Parse.f k s = some (parseL s) := by
  have h := scanL_bound (bs s)
  rw [bs_length] at h
  unfold addr_Parse.f parseL
  rw [lexScan_is s (by omega) k (by omega), Option.bind_some]
  simp only []
  by_cases h0 : (scanL [] .out (bs s)).2 = 0
  · rw [if_pos h0, if_pos h0, addrOf_is _ (by omega) (by omega) k (by omega), Option.bind_some]
  · rw [if_neg h0, if_neg h0]
    rfl
def strictL (s : ByteArray) : Res := if (parseL s).2.2 = 0 then (if fold (bs s) = fold (textL (bs (parseL s).1) (bs (parseL s).2.1)) then parseL s else noAddr) else parseL s
theorem addrStrict_is (s : ByteArray) (hs : s.size ≤ 50000) (k : Nat) (hk : 1000000 ≤ k) : addr_Strict.f k s = some (strictL s) := by
  have h := parseL_size s
  unfold addr_Strict.f strictL
  rw [addrParse_is s hs k hk, Option.bind_some]
  by_cases h0 : (parseL s).2.2 = 0
  · rw [if_pos h0, if_pos h0, glyphFold_is s (by omega), Option.bind_some, addrKey_is _ _ (by omega) (by omega) k (by omega), Option.bind_some, toList_str, toList_str]
    split <;> rfl
  · rw [if_neg h0, if_neg h0]
end Go.Proofs.YtgaaogijfikfeaaDoor.Pl
set_option linter.unusedVariables false
set_option linter.unusedSimpArgs false
namespace Go.Proofs.YtgaaogijfikfeaaDoor.Pl
open Go.RowKit Go.Proofs.YtgaaogijfikfeaaDoorW.PrintWords Go.Proofs.YtgaaogijfikfeaaDoor.Fn

theorem right_parts {a b : ByteArray} (h : right a b = true) : domainL (bs b) = 0 ∧ bs a ≠ [] ∧ (bs a).all plainB = true ∧ fold (bs b) = bs b ∧ a.size ≤ 64 ∧ (textL (bs a) (bs b)).length ≤ 254 := by
  unfold right at h
  rw [Bool.and_eq_true, beq_iff_eq, decide_eq_true_eq] at h
  obtain ⟨h1, h2⟩ := h
  unfold why at h1
  by_cases c1 : domain b = 130 ∨ bs a = [] ∨ plain a = false
  · rw [if_pos c1] at h1; cases h1
  · rw [if_neg c1] at h1
    by_cases c2 : domain b ≠ 0 ∨ 64 < a.size ∨ 254 < (textL (bs a) (bs b)).length
    · rw [if_pos c2] at h1; cases h1
    · have c3 : domain b = 0 := by
        by_cases h : domain b = 0
        · exact h
        · exact absurd (.inl h) c2
      have c4 : plain a = true := by
        cases hp : plain a with
        | true => rfl
        | false => exact absurd (.inr (.inr hp)) c1
      refine ⟨by rw [← domain_L]; exact c3, fun h => c1 (.inr (.inl h)), by rw [← plain_L]; exact c4, h2.symm, ?_, ?_⟩
      · rcases Nat.lt_or_ge 64 a.size with q | q
        · exact absurd (.inr (.inl q)) c2
        · exact q
      · rcases Nat.lt_or_ge 254 (textL (bs a) (bs b)).length with q | q
        · exact absurd (.inr (.inr q)) c2
        · exact q
end Go.Proofs.YtgaaogijfikfeaaDoor.Pl
set_option linter.unusedVariables false
set_option linter.unusedSimpArgs false
namespace Go.Proofs.YtgaaogijfikfeaaDoor.Pl
open Go.RowKit Go.Proofs.YtgaaogijfikfeaaDoorW.PrintWords Go.Proofs.YtgaaogijfikfeaaDoor.Fn

/-! What is written is read again. -/
def stops (l : Bytes) : Prop := ∀ c r, l = c :: r → atomic c = false
theorem scan_atomic (w : Bytes) (acc : List Tok) (l : Bytes) (hl : stops l) : ∀ v : Bytes, v.all atomic = true → scanL acc (.atom w) (v ++ l) = scanL (acc ++ [(1, w ++ v)]) .out l
  | [], _ => by
    rw [List.nil_append, List.append_nil]
    cases l with
    | nil => rfl
    | cons c r =>
      rw [scanL_cons, scanL_cons]
      unfold step
      simp only []
      rw [hl c r rfl, if_neg (by decide)]
  | c :: v, hv => by
    simp only [List.all_cons, Bool.and_eq_true] at hv
    rw [List.cons_append, scanL_cons]
    unfold step
    simp only []
    rw [hv.1, if_pos rfl]
    simp only []
    rw [scan_atomic (w ++ [c]) acc l hl v hv.2]
    simp
theorem scan_word (acc : List Tok) (w l : Bytes) (hw : atomL w = true) (hl : stops l) : scanL acc .out (w ++ l) = scanL (acc ++ [(1, w)]) .out l := by
  unfold atomL at hw
  rw [Bool.and_eq_true] at hw
  cases w with
  | nil => simp at hw
  | cons c v =>
    have hv := hw.1
    simp only [List.all_cons, Bool.and_eq_true] at hv
    rw [List.cons_append, scanL_cons]
    have hs : step acc .out c (v ++ l) = .inl (acc, .atom [c], v ++ l) := by
      unfold step stepOut
      simp only []
      rw [fold_not (atomic_apart c hv.1).1, hv.1, if_neg (by decide), if_pos rfl]
    rw [hs]
    simp only []
    rw [scan_atomic [c] acc l hl v hv.2]
    rfl
theorem scan_sign (acc : List Tok) (c : UInt8) (l : Bytes) (hc : c = 46 ∨ c = 64) : scanL acc .out (c :: l) = scanL (acc ++ [(3, [c])]) .out l := by
  have h : c ≠ 13 ∧ atomic c = false ∧ c ≠ 34 ∧ c ≠ 40 ∧ signB c = true := by rcases hc with rfl | rfl <;> decide +kernel
  rw [scanL_cons]
  have hs : step acc .out c l = .inl (acc ++ [(3, [c])], .out, l) := by
    unfold step stepOut
    simp only []
    rw [fold_not h.1, h.2.1, h.2.2.2.2, if_neg (by decide), if_neg (by decide), if_neg h.2.2.1, if_neg h.2.2.2.1, if_pos rfl]
  rw [hs]
theorem stops_sign (c : UInt8) (l : Bytes) (hc : c = 46 ∨ c = 64) : stops (c :: l) := by
  intro d r e
  obtain ⟨rfl, rfl⟩ := List.cons.inj e
  rcases hc with rfl | rfl <;> decide +kernel
theorem stops_nil : stops [] := fun c r e => by cases e
def toks : List Bytes → List Tok
  | [] => []
  | [p] => [(1, p)]
  | p :: q :: r => (1, p) :: (3, [46]) :: toks (q :: r)
def dotJoin : List Bytes → Bytes
  | [] => []
  | [p] => p
  | p :: q :: r => p ++ 46 :: dotJoin (q :: r)
theorem dotJoin_split : ∀ l : Bytes, dotJoin (splitL 46 l) = l
  | [] => rfl
  | c :: l => by
    have ih := dotJoin_split l
    have hne := splitL_ne 46 l
    rw [splitL]
    by_cases h : c = 46
    · rw [if_pos h]
      cases hs : splitL 46 l with
      | nil => exact absurd hs hne
      | cons p r => rw [hs] at ih; rw [dotJoin, ih, h]; rfl
    · rw [if_neg h]
      cases hs : splitL 46 l with
      | nil => exact absurd hs hne
      | cons p r =>
        rw [hs] at ih
        simp only []
        cases r with
        | nil => rw [dotJoin] at ih ⊢; rw [ih]
        | cons q r => rw [dotJoin] at ih ⊢; rw [← ih]; rfl
theorem scan_dots (acc : List Tok) (l : Bytes) (hl : stops l) : ∀ ps : List Bytes, ps ≠ [] → ps.all atomL = true → scanL acc .out (dotJoin ps ++ l) = scanL (acc ++ toks ps) .out l
  | [], h, _ => absurd rfl h
  | [p], _, h => by
    simp only [List.all_cons, List.all_nil, Bool.and_true] at h
    rw [dotJoin, toks, scan_word acc p l h hl]
  | p :: q :: r, _, h => by
    simp only [List.all_cons, Bool.and_eq_true] at h
    rw [dotJoin, List.append_assoc, List.cons_append, scan_word acc p _ h.1 (stops_sign 46 _ (.inl rfl)), scan_sign _ 46 _ (.inl rfl), scan_dots _ l hl (q :: r) (by simp) (by simp only [List.all_cons, Bool.and_eq_true]; exact h.2), toks]
    simp
theorem toks_alt (p : Tok → Bool) (hp : ∀ w, p (1, w) = true) : ∀ ps : List Bytes, ps ≠ [] → altOk p (toks ps) = true
  | [], h => absurd rfl h
  | [w], _ => hp w
  | w :: q :: r, _ => by
    have ih := toks_alt p hp (q :: r) (by simp)
    rw [toks, altOk, hp, ih]
    · rfl
theorem toks_cat : ∀ ps : List Bytes, cat (toks ps) = dotJoin ps
  | [] => rfl
  | [p] => by simp [toks, cat, dotJoin]
  | p :: q :: r => by
    have ih := toks_cat (q :: r)
    rw [toks, dotJoin, ← ih]
    simp [cat]
theorem scan_quoted (acc : List Tok) (l : Bytes) : ∀ (a w : Bytes), a.all plainB = true → scanL acc (.quot w false) (a.flatMap qB ++ 34 :: l) = scanL (acc ++ [(2, w ++ a)]) .out l
  | [], w, _ => by
    rw [List.flatMap_nil, List.nil_append, scanL_cons, List.append_nil]
    unfold step
    simp only []
    rw [fold_not (by decide), if_neg (by decide), if_neg (by decide), text_34, if_pos rfl, if_pos trivial]
  | c :: a, w, h => by
    simp only [List.all_cons, Bool.and_eq_true] at h
    have ht := plain_text c h.1
    have h13 : c ≠ 13 := fun e => by rw [e] at h; exact absurd h.1 (by decide)
    have ih := scan_quoted acc l a (w ++ [c]) h.2
    rw [List.flatMap_cons, List.append_assoc]
    by_cases hc : c = 34 ∨ c = 92
    · rw [show qB c = [92, c] by unfold qB; rw [if_pos hc], List.cons_append, scanL_cons]
      have hs : step acc (.quot w false) 92 ([c] ++ (a.flatMap qB ++ 34 :: l)) = .inl (acc, .quot w true, [c] ++ (a.flatMap qB ++ 34 :: l)) := by
        unfold step
        simp only []
        rw [fold_not (by decide), if_neg (by decide), if_pos trivial]
      rw [hs]
      simp only []
      rw [List.cons_append, List.nil_append, scanL_cons]
      have hs2 : step acc (.quot w true) c (a.flatMap qB ++ 34 :: l) = .inl (acc, .quot (w ++ [c]) false, a.flatMap qB ++ 34 :: l) := by
        unfold step
        simp only []
        rw [ht, if_pos rfl]
      rw [hs2]
      simp only []
      rw [ih]
      simp
    · have h34 : c ≠ 34 := fun e => hc (.inl e)
      have h92 : c ≠ 92 := fun e => hc (.inr e)
      rw [show qB c = [c] by unfold qB; rw [if_neg hc, if_pos ht], List.cons_append, List.nil_append, scanL_cons]
      have hs : step acc (.quot w false) c (a.flatMap qB ++ 34 :: l) = .inl (acc, .quot (w ++ [c]) false, a.flatMap qB ++ 34 :: l) := by
        unfold step
        simp only []
        rw [fold_not h13, if_neg (by decide), if_neg h92, ht, if_pos rfl, if_neg h34]
      rw [hs]
      simp only []
      rw [ih]
      simp
def localToks (a : Bytes) : List Tok := if dottedL a = true then toks (splitL 46 a) else [(2, a)]
theorem scan_local (a l : Bytes) (ha : a.all plainB = true) (hl : stops l) : scanL [] .out (localL a ++ l) = scanL (localToks a) .out l := by
  unfold localL localToks
  by_cases hd : dottedL a = true
  · rw [if_pos hd, if_pos hd]
    have := scan_dots [] l hl (splitL 46 a) (splitL_ne _ _) hd
    rw [dotJoin_split] at this
    simpa using this
  · rw [if_neg hd, if_neg hd]
    unfold quote
    rw [List.cons_append, List.append_assoc, scanL_cons]
    have hs : step [] .out 34 (a.flatMap qB ++ ([34] ++ l)) = .inl ([], .quot [] false, a.flatMap qB ++ ([34] ++ l)) := by
      unfold step stepOut
      simp only []
      rw [fold_not (by decide), show atomic 34 = false by decide +kernel, if_neg (by decide), if_neg (by decide), if_pos trivial]
    rw [hs]
    simp only []
    exact scan_quoted [] l a [] ha
theorem localToks_alt (a : Bytes) : altOk wordT (localToks a) = true := by
  unfold localToks
  split
  · exact toks_alt wordT (fun _ => rfl) _ (splitL_ne _ _)
  · rfl
theorem localToks_cat (a : Bytes) : cat (localToks a) = a := by
  unfold localToks
  split
  · rw [toks_cat, dotJoin_split]
  · simp [cat]
set_option maxRecDepth 100000 in
theorem labelled_atomic (c : UInt8) : labelled c = true → atomic c = true := forall_byte (p := fun c => labelled c = true → atomic c = true) (by decide +kernel) c
theorem label_atom {w : Bytes} (h : labelL w = true) : atomL w = true := by
  unfold atomL
  have hall : w.all atomic = true := by
    rw [List.all_eq_true]
    intro c hc
    exact labelled_atomic c (labelL_bytes h hc)
  rw [hall]
  cases w with
  | nil => simp [labelL] at h
  | cons c r => rfl
theorem domain_dotted {b : Bytes} (h : domainL b = 0) : (splitL 46 b).all atomL = true := by
  unfold domainL at h
  by_cases ha : (splitL 46 b).all labelL = true
  · rw [List.all_eq_true] at ha ⊢
    exact fun w hw => label_atom (ha w hw)
  · rw [if_neg ha] at h; cases h
theorem parse_text {a b : ByteArray} (h : right a b = true) : parseL (str (textL (bs a) (bs b))) = (a, b, 0) := by
  obtain ⟨d1, n1, p1, f1, s1, s2⟩ := right_parts h
  have hw : why a b = 0 := by
    unfold right at h
    rw [Bool.and_eq_true, decide_eq_true_eq] at h
    exact h.1
  have hdom := scan_dots (localToks (bs a) ++ [(3, [64])]) [] stops_nil (splitL 46 (bs b)) (splitL_ne _ _) (domain_dotted d1)
  rw [dotJoin_split, List.append_nil] at hdom
  have hscan : scanL [] .out (textL (bs a) (bs b)) = (localToks (bs a) ++ (3, [64]) :: toks (splitL 46 (bs b)), 0) := by
    unfold textL
    rw [scan_local (bs a) _ p1 (stops_sign 64 _ (.inr rfl)), scan_sign _ 64 _ (.inr rfl), hdom]
    simp [scanL_nil, endOf]
  unfold parseL
  rw [bs_str, hscan, if_pos rfl]
  simp only []
  unfold ofT
  rw [atSplit_of (t := (3, [64])) rfl (no64 (fun t ht => by unfold wordT at ht; simpa using ht) (localToks_alt (bs a)))]
  simp only []
  rw [if_pos ⟨localToks_alt _, toks_alt atomT (fun _ => rfl) _ (splitL_ne _ _)⟩, localToks_cat, toks_cat, dotJoin_split]
  unfold finish
  rw [f1, str_bs, str_bs, if_pos hw]
end Go.Proofs.YtgaaogijfikfeaaDoor.Pl
set_option linter.unusedVariables false
set_option linter.unusedSimpArgs false
namespace Go.Proofs.YtgaaogijfikfeaaDoor.Pl
open Go.RowKit Go.Proofs.YtgaaogijfikfeaaDoorW.PrintWords Go.Proofs.YtgaaogijfikfeaaDoor.Fn

theorem close_pass : ∀ (l r : Bytes) (i : Nat), (∀ c ∈ l, c ≠ 34 ∧ c ≠ 62) → closeL 0 i (l ++ r) = closeL 0 (i + l.length) r
  | [], r, i, _ => rfl
  | c :: l, r, i, h => by
    have hc := h c (by simp)
    rw [List.cons_append, closeL, if_neg (by decide), if_neg hc.1, if_neg (by simp), if_neg (by simp [hc.2]), close_pass l r (i + 1) (fun d hd => h d (by simp [hd]))]
    simp only [List.length_cons]
    congr 1
    omega
theorem close_quoted : ∀ (a r : Bytes) (i : Nat), closeL 1 i (a.flatMap qB ++ 34 :: r) = closeL 0 (i + (a.flatMap qB).length + 1) r
  | [], r, i => by
    rw [List.flatMap_nil, List.nil_append, closeL, if_neg (by decide), if_pos rfl]
    rfl
  | c :: a, r, i => by
    rw [List.flatMap_cons, List.append_assoc]
    by_cases hc : c = 34 ∨ c = 92
    · have e : qB c = [92, c] := by unfold qB; rw [if_pos hc]
      rw [e, List.cons_append, List.cons_append, List.nil_append, closeL, if_neg (by decide), if_neg (by decide), if_pos ⟨rfl, rfl⟩, closeL, if_pos rfl, close_quoted a r (i + 1 + 1)]
      simp only [List.length_append, List.length_cons, List.length_nil]
      congr 1
      omega
    · have h34 : c ≠ 34 := fun e => hc (.inl e)
      have h92 : c ≠ 92 := fun e => hc (.inr e)
      by_cases ht : text c = true
      · have e : qB c = [c] := by unfold qB; rw [if_neg hc, if_pos ht]
        rw [e, List.cons_append, List.nil_append, closeL, if_neg (by decide), if_neg h34, if_neg (by simp [h92]), if_neg (by simp), close_quoted a r (i + 1)]
        simp only [List.length_append, List.length_cons, List.length_nil]
        congr 1
        omega
      · have e : qB c = [32] := by unfold qB; rw [if_neg hc, if_neg ht]
        rw [e, List.cons_append, List.nil_append, closeL, if_neg (by decide), if_neg (by decide), if_neg (by simp), if_neg (by simp), close_quoted a r (i + 1)]
        simp only [List.length_append, List.length_cons, List.length_nil]
        congr 1
        omega
set_option maxRecDepth 100000 in
theorem atomic_62 (c : UInt8) : atomic c = true → c ≠ 34 ∧ c ≠ 62 := forall_byte (p := fun c => atomic c = true → c ≠ 34 ∧ c ≠ 62) (by decide +kernel) c
theorem dotted_bytes {l : Bytes} (h : (splitL 46 l).all atomL = true) : ∀ c ∈ l, atomic c = true ∨ c = 46 := by
  intro c hc
  by_cases h46 : c = 46
  · exact .inr h46
  · obtain ⟨w, hw, hcw⟩ := mem_splitL hc h46
    have := List.all_eq_true.1 h w hw
    unfold atomL at this
    rw [Bool.and_eq_true] at this
    exact .inl (List.all_eq_true.1 this.1 c hcw)
theorem dotted_pass {l : Bytes} (h : (splitL 46 l).all atomL = true) : ∀ c ∈ l, c ≠ 34 ∧ c ≠ 62 := by
  intro c hc
  rcases dotted_bytes h c hc with h1 | rfl
  · exact atomic_62 c h1
  · decide
theorem close_local (a r : Bytes) (i : Nat) : closeL 0 i (localL a ++ r) = closeL 0 (i + (localL a).length) r := by
  unfold localL
  by_cases hd : dottedL a = true
  · rw [if_pos hd]
    exact close_pass a r i (dotted_pass hd)
  · rw [if_neg hd]
    unfold quote
    rw [List.cons_append, List.append_assoc, closeL, if_neg (by decide), if_pos rfl, List.cons_append, List.nil_append, close_quoted]
    simp only [List.length_cons, List.length_append, List.length_nil]
    congr 1
    omega
theorem closing_text {a b : ByteArray} (h : right a b = true) (r : Bytes) : closing (60 :: (textL (bs a) (bs b) ++ 62 :: r)) = ((textL (bs a) (bs b)).length + 1 : Nat) := by
  obtain ⟨d1, n1, p1, f1, s1, s2⟩ := right_parts h
  unfold closing
  simp only [if_true]
  unfold textL
  rw [List.append_assoc, close_local, List.cons_append]
  have hp : ∀ c ∈ (64 : UInt8) :: bs b, c ≠ 34 ∧ c ≠ 62 := by
    intro c hc
    rcases List.mem_cons.1 hc with rfl | hc
    · decide
    · exact dotted_pass (domain_dotted d1) c hc
  have := close_pass (64 :: bs b) (62 :: r) (1 + (localL (bs a)).length) hp
  rw [List.cons_append] at this
  rw [this, closeL, if_neg (by decide), if_neg (by decide), if_neg (by simp), if_pos ⟨rfl, rfl⟩]
  simp only [List.length_append, List.length_cons]
  omega
end Go.Proofs.YtgaaogijfikfeaaDoor.Pl
-- written by xprint.py of this session over the kit's printer; not trusted: Lean checks it
namespace Go.Proofs.YtgaaogijfikfeaaDoor.Fn
open Go.RowKit Go.Proofs.YtgaaogijfikfeaaDoorW.PrintWords Go.Proofs.YtgaaogijfikfeaaDoorW.PrintLast Go.Proofs.YtgaaogijfikfeaaDoorW.PrintMore
attribute [local go_sem] max2_int min2_int max_two min_two max_three min_three max_four min_four   -- for this text's walks alone
set_option linter.unusedVariables false
set_option linter.unusedSimpArgs false

/-! ### head_named: function 163 -/
def head_named.l0 : Nat → ByteArray → Int → Int → Option (Bool)
 | 0, _, _, _ => none
 | k + 1, x0, x6, x7 => if x7 < x6 then (if 0 ≤ x7 then (if x7 < (x0.size : Int) then (if (bt x0 x7) ≤ 32 then (some false) else (if (bt x0 x7) > 126 then (some false) else (if (bt x0 x7) = 58 then (some false) else (head_named.l0 k x0 x6 (wrap64 (x7 + 1)))))) else (none)) else (none)) else (if x0.toList = ([] : List UInt8) then (some false) else (some (decide ((x0.size : Int) ≤ 76))))
def head_named.f (k : Nat) (a0 : ByteArray) : Option (Bool) := head_named.l0 k a0 (a0.size : Int) 0
end Go.Proofs.YtgaaogijfikfeaaDoor.Fn
-- written by xprint.py of this session over the kit's printer; not trusted: Lean checks it
namespace Go.Proofs.YtgaaogijfikfeaaDoor.Fn
open Go.RowKit Go.Proofs.YtgaaogijfikfeaaDoorW.PrintWords Go.Proofs.YtgaaogijfikfeaaDoorW.PrintLast Go.Proofs.YtgaaogijfikfeaaDoorW.PrintMore
attribute [local go_sem] max2_int min2_int max_two min_two max_three min_three max_four min_four   -- for this text's walks alone
set_option linter.unusedVariables false
set_option linter.unusedSimpArgs false

/-! ### head_text: function 161 -/
def head_text.l0 : Nat → ByteArray → Int → Int → Option (Bool)
 | 0, _, _, _ => none
 | k + 1, x0, x6, x7 => if x7 < x6 then (if 0 ≤ x7 then (if x7 < (x0.size : Int) then (if (bt x0 x7) < 32 then (if (bt x0 x7) = 9 then (if (bt x0 x7) = 127 then (some false) else (head_text.l0 k x0 x6 (wrap64 (x7 + 1)))) else (some false)) else (if (bt x0 x7) = 127 then (some false) else (head_text.l0 k x0 x6 (wrap64 (x7 + 1))))) else (none)) else (none)) else (some true)
def head_text.f (k : Nat) (a0 : ByteArray) : Option (Bool) := head_text.l0 k a0 (a0.size : Int) 0
end Go.Proofs.YtgaaogijfikfeaaDoor.Fn
-- written by xprint.py of this session over the kit's printer; not trusted: Lean checks it
namespace Go.Proofs.YtgaaogijfikfeaaDoor.Fn
open Go.RowKit Go.Proofs.YtgaaogijfikfeaaDoorW.PrintWords Go.Proofs.YtgaaogijfikfeaaDoorW.PrintLast Go.Proofs.YtgaaogijfikfeaaDoorW.PrintMore
attribute [local go_sem] max2_int min2_int max_two min_two max_three min_three max_four min_four   -- for this text's walks alone
set_option linter.unusedVariables false
set_option linter.unusedSimpArgs false

/-! ### head_white: function 162 -/
def head_white.f (a0 : ByteArray) : Option (Bool) := if a0.toList = ([] : List UInt8) then (some false) else (if 0 < (a0.size : Int) then (if (bt a0 0) = 32 then (some true) else (some ((bt a0 0) == 9))) else (none))
end Go.Proofs.YtgaaogijfikfeaaDoor.Fn
-- written by xprint.py of this session over the kit's printer; not trusted: Lean checks it
namespace Go.Proofs.YtgaaogijfikfeaaDoor.Fn
open Go.RowKit Go.Proofs.YtgaaogijfikfeaaDoorW.PrintWords Go.Proofs.YtgaaogijfikfeaaDoorW.PrintLast Go.Proofs.YtgaaogijfikfeaaDoorW.PrintMore
attribute [local go_sem] max2_int min2_int max_two min_two max_three min_three max_four min_four   -- for this text's walks alone
set_option linter.unusedVariables false
set_option linter.unusedSimpArgs false

/-! ### head_grow: function 124 -/
mutual
def head_grow.j0 : Nat → List (S30) → ByteArray → Bool → Option ((List (S30)) × Int)
 | 0, _, _, _ => none
 | k + 1, x0, x1, x13 => if x13 = true then (some (([] : List (S30)), 150)) else ((head_white.f x1).bind fun t364 => (if t364 = true then (if 0 ≤ (wrap64 ((x0.length : Int) - 1)) then (if (wrap64 ((x0.length : Int) - 1)) < (x0.length : Int) then (if ((rd_T30 x0 (wrap64 ((x0.length : Int) - 1))).f1).size + x1.size ≤ 9223372036854775807 then (some ((x0.set ((wrap64 ((x0.length : Int) - 1)) : Int).toNat (⟨(rd_T30 x0 (wrap64 ((x0.length : Int) - 1))).f0, ((rd_T30 x0 (wrap64 ((x0.length : Int) - 1))).f1) ++ x1⟩ : S30)), 0)) else (none)) else (none)) else (none)) else ((strings_Cut.f x1 (⟨#[58]⟩ : ByteArray)).bind fun bt367 => (if bt367.2.2 = true then ((head_named.f k bt367.1).bind fun t370 => (head_grow.j1 k x0 bt367.1 bt367.2.1 (!t370))) else (head_grow.j1 k x0 bt367.1 bt367.2.1 true)))))
def head_grow.j1 : Nat → List (S30) → ByteArray → ByteArray → Bool → Option ((List (S30)) × Int)
 | 0, _, _, _, _ => none
 | k + 1, x0, x6, x7, x47 => if x47 = true then (some (([] : List (S30)), 150)) else (if (x0.length : Int) = 100 then (some (([] : List (S30)), 8)) else (if x0.length < 4398046511104 then (some ((x0 ++ [(⟨x6, x7⟩ : S30)]), 0)) else (none)))
end
def head_grow.f (k : Nat) (l0 : List (S30)) (a1 : ByteArray) : Option ((List (S30)) × Int) := if (a1.size : Int) > 998 then (some (([] : List (S30)), 2)) else ((head_text.f k a1).bind fun t362 => (if t362 = true then ((head_white.f a1).bind fun t363 => (if t363 = true then (head_grow.j0 k l0 a1 ((l0.length : Int) == 0)) else (head_grow.j0 k l0 a1 false))) else (head_grow.j0 k l0 a1 true)))
end Go.Proofs.YtgaaogijfikfeaaDoor.Fn
set_option linter.unusedVariables false
namespace Go.Proofs.YtgaaogijfikfeaaDoor.Fn
open Go.RowKit Go.Proofs.YtgaaogijfikfeaaDoorW.PrintWords

def strings_Trim.f (a0 a1 : ByteArray) : Option ByteArray :=
  if a0.size ≤ 140737488355328 then (if a1.size ≤ 1000 then (if a1.data.toList.all (fun b => decide (b.toNat < 128)) = true then some (Pl.str (Lib.trimS a0.data.toList a1.data.toList)) else none) else none) else none
end Go.Proofs.YtgaaogijfikfeaaDoor.Fn
-- written by xprint.py of this session over the kit's printer; not trusted: Lean checks it
namespace Go.Proofs.YtgaaogijfikfeaaDoor.Fn
open Go.RowKit Go.Proofs.YtgaaogijfikfeaaDoorW.PrintWords Go.Proofs.YtgaaogijfikfeaaDoorW.PrintLast Go.Proofs.YtgaaogijfikfeaaDoorW.PrintMore
attribute [local go_sem] max2_int min2_int max_two min_two max_three min_three max_four min_four   -- for this text's walks alone
set_option linter.unusedVariables false
set_option linter.unusedSimpArgs false

/-! ### head_trim: function 125 -/
def head_trim.f (a0 : ByteArray) : Option (ByteArray) := (strings_Trim.f a0 (⟨#[32, 9]⟩ : ByteArray)).bind fun t376 => (some t376)
end Go.Proofs.YtgaaogijfikfeaaDoor.Fn
-- written by xprint.py of this session over the kit's printer; not trusted: Lean checks it
namespace Go.Proofs.YtgaaogijfikfeaaDoor.Fn
open Go.RowKit Go.Proofs.YtgaaogijfikfeaaDoorW.PrintWords Go.Proofs.YtgaaogijfikfeaaDoorW.PrintLast Go.Proofs.YtgaaogijfikfeaaDoorW.PrintMore
attribute [local go_sem] max2_int min2_int max_two min_two max_three min_three max_four min_four   -- for this text's walks alone
set_option linter.unusedVariables false
set_option linter.unusedSimpArgs false

/-! ### head_Parse: function 73 -/
mutual
def head_Parse.j1 : Nat → List (S30) → ByteArray → Option ((List (S30)) × ByteArray × Int)
 | 0, _, _ => none
 | k + 1, x2, x3 => head_Parse.l1 k x2 x3 (x2.length : Int) 0
def head_Parse.l1 : Nat → List (S30) → ByteArray → Int → Int → Option ((List (S30)) × ByteArray × Int)
 | 0, _, _, _, _ => none
 | k + 1, x2, x3, x33, x34 => if x34 < x33 then (if 0 ≤ x34 then (if x34 < (x2.length : Int) then ((head_trim.f ((rd_T30 x2 x34).f1)).bind fun t385 => (head_Parse.l1 k (x2.set (x34 : Int).toNat (⟨(rd_T30 x2 x34).f0, t385⟩ : S30)) x3 x33 (wrap64 (x34 + 1)))) else (none)) else (none)) else (some (x2, x3, 0))
def head_Parse.l0 : Nat → ByteArray → List (S30) → ByteArray → Option ((List (S30)) × ByteArray × Int)
 | 0, _, _, _ => none
 | k + 1, x0, x2, x3 => if x0.toList = ([] : List UInt8) then (head_Parse.j1 k x2 x3) else ((strings_Cut.f x0 (⟨#[13, 10]⟩ : ByteArray)).bind fun bt377 => (if bt377.2.2 = true then (if bt377.1.toList = ([] : List UInt8) then (head_Parse.j1 k x2 bt377.2.1) else ((head_grow.f k x2 bt377.1).bind fun bt380 => (if bt380.2 = 0 then (head_Parse.l0 k bt377.2.1 bt380.1 x3) else (some (([] : List (S30)), (⟨#[]⟩ : ByteArray), bt380.2))))) else (some (([] : List (S30)), (⟨#[]⟩ : ByteArray), 9))))
end
end Go.Proofs.YtgaaogijfikfeaaDoor.Fn
set_option linter.unusedVariables false
namespace Go.Proofs.YtgaaogijfikfeaaDoor.Fn
open Go.RowKit Go.Proofs.YtgaaogijfikfeaaDoorW.PrintWords

/-! strings.IndexRune of a blank text at a sign beyond ASCII: -1. -/
end Go.Proofs.YtgaaogijfikfeaaDoor.Fn
set_option linter.unusedVariables false
namespace Go.Proofs.YtgaaogijfikfeaaDoor.Fn
open Go.RowKit Go.Proofs.YtgaaogijfikfeaaDoorW.PrintWords

end Go.Proofs.YtgaaogijfikfeaaDoor.Fn
set_option linter.unusedVariables false
namespace Go.Proofs.YtgaaogijfikfeaaDoor.Fn
open Go.RowKit Go.Proofs.YtgaaogijfikfeaaDoorW.PrintWords

end Go.Proofs.YtgaaogijfikfeaaDoor.Fn
-- written by xprint.py of this session over the kit's printer; not trusted: Lean checks it
namespace Go.Proofs.YtgaaogijfikfeaaDoor.Fn
open Go.RowKit Go.Proofs.YtgaaogijfikfeaaDoorW.PrintWords Go.Proofs.YtgaaogijfikfeaaDoorW.PrintLast Go.Proofs.YtgaaogijfikfeaaDoorW.PrintMore
attribute [local go_sem] max2_int min2_int max_two min_two max_three min_three max_four min_four   -- for this text's walks alone
set_option linter.unusedVariables false
set_option linter.unusedSimpArgs false

/-! ### head_piece: function 126 -/
end Go.Proofs.YtgaaogijfikfeaaDoor.Fn
set_option linter.unusedVariables false
set_option linter.unusedSimpArgs false
namespace Go.Proofs.YtgaaogijfikfeaaDoor.Pl
open Go.RowKit Go.Proofs.YtgaaogijfikfeaaDoorW.PrintWords Go.Proofs.YtgaaogijfikfeaaDoor.Fn

/-! head: how a field is written, in pieces. -/
def wb (c : UInt8) : Bool := ([32, 9] : List UInt8).contains c
def lead (s : Bytes) : Nat := (s.takeWhile wb).length
def word (s : Bytes) : Nat := (s.takeWhile (fun c => !wb c)).length
end Go.Proofs.YtgaaogijfikfeaaDoor.Pl
set_option linter.unusedVariables false
set_option linter.unusedSimpArgs false
namespace Go.Proofs.YtgaaogijfikfeaaDoor.Pl
open Go.RowKit Go.Proofs.YtgaaogijfikfeaaDoorW.PrintWords Go.Proofs.YtgaaogijfikfeaaDoor.Fn

/-! head.Parse as a machine over lists of bytes. -/
abbrev Fld := Bytes × Bytes
def nameB (c : UInt8) : Bool := !decide (c.toNat < 33) && (!decide (126 < c.toNat) && !decide (c.toNat = 58))
def named (s : Bytes) : Bool := s.all nameB && (!decide (s = []) && decide (s.length ≤ 76))
def upto (c : UInt8) : Bytes → Nat
  | [] => 0
  | d :: r => if d = c then 0 else upto c r + 1
def bad (e : Int) : List Fld × Bytes × Int := ([], [], e)
theorem index_one (c : UInt8) : ∀ (s : Bytes), Lib.index s [c] = (if upto c s = s.length then -1 else (upto c s : Int))
  | [] => rfl
  | d :: r => by
    have ih := index_one c r
    rw [Lib.index, upto]
    by_cases h : d = c
    · subst h
      rw [if_pos (by simp [List.isPrefixOf]), if_pos rfl, if_neg (by simp)]
      rfl
    · rw [if_neg (by simp [List.isPrefixOf]; exact fun e => h e.symm), if_neg h, ih]
      simp only [List.length_cons]
      by_cases h2 : upto c r = r.length
      · rw [if_pos h2, if_pos (by decide), if_pos (by omega)]
      · rw [if_neg h2, if_neg (by first | (simp; done) | (simp; omega)), if_neg (by omega)]; omega
end Go.Proofs.YtgaaogijfikfeaaDoor.Pl
set_option linter.unusedVariables false
set_option linter.unusedSimpArgs false
namespace Go.Proofs.YtgaaogijfikfeaaDoor.Pl
open Go.RowKit Go.Proofs.YtgaaogijfikfeaaDoorW.PrintWords Go.Proofs.YtgaaogijfikfeaaDoor.Fn

/-! Layer 28, the program's: what From, To and Show answer. -/
set_option maxRecDepth 100000 in
theorem works28_at : bulletinlaw28_works.f 200 = some true := by decide +kernel
theorem works28 (k : Nat) (hk : 200 ≤ k) : bulletinlaw28_works.f k = some true := mono_up bulletinlaw28_works.mono works28_at k hk
def showP (a b : ByteArray) : Bytes := 60 :: (textL (bs a) (bs b) ++ [62])
theorem wrapText (l : Bytes) : ((⟨#[60]⟩ : ByteArray) ++ str l) ++ (⟨#[62]⟩ : ByteArray) = str (60 :: (l ++ [62])) := by
  apply bs_inj
  rw [bs_app, bs_app, bs_str, bs_str]
  rfl
theorem pathShow_is (a b : ByteArray) (ha : a.size ≤ 1000000) (hb : b.size ≤ 1000000) (k : Nat) (hk : 2 * a.size + 1 ≤ k) : path_Show.f k a b = some (str (showP a b)) := by
  have hl := textL_length (bs a) (bs b)
  rw [bs_length, bs_length] at hl
  have h1 : ((⟨#[60]⟩ : ByteArray)).size = 1 := rfl
  unfold path_Show.f
  rw [addrText_is a b ha hb k hk, Option.bind_some, if_pos (by rw [str_size]; omega), if_pos (by rw [ByteArray.size_append, str_size, h1]; omega), wrapText]
  rfl
theorem pathsplit_is (s : ByteArray) (hs : s.size ≤ 1000000000) : path_split.f s = some (split s) := by
  unfold path_split.f
  rw [if_pos hs]
theorem options_none (k : Nat) (hk : 1 ≤ k) (a b : ByteArray) (f : Bool) (n : Int) : path_options.f k a b f n [] = some (a, b, f, n, 0) := by
  obtain ⟨k, rfl⟩ : ∃ j, k = j + 1 := ⟨k - 1, by omega⟩
  unfold path_options.f
  rw [path_options.l0, if_neg (by simp)]
def postL : Bytes := [112, 111, 115, 116, 109, 97, 115, 116, 101, 114]
end Go.Proofs.YtgaaogijfikfeaaDoor.Pl
-- written by xprint.py of this session over the kit's printer; not trusted: Lean checks it
namespace Go.Proofs.YtgaaogijfikfeaaDoor.Fn
open Go.RowKit Go.Proofs.YtgaaogijfikfeaaDoorW.PrintWords Go.Proofs.YtgaaogijfikfeaaDoorW.PrintLast Go.Proofs.YtgaaogijfikfeaaDoorW.PrintMore
attribute [local go_sem] max2_int min2_int max_two min_two max_three min_three max_four min_four   -- for this text's walks alone
set_option linter.unusedVariables false
set_option linter.unusedSimpArgs false

attribute [local go_sem high] eqA51
/-! ### bulletinlaw28_PathTo: function 11 -/
end Go.Proofs.YtgaaogijfikfeaaDoor.Fn
set_option linter.unusedVariables false
namespace Go.Proofs.YtgaaogijfikfeaaDoor.Pl
open Go.RowKit Go.Proofs.YtgaaogijfikfeaaDoorW.PrintWords Go.Proofs.YtgaaogijfikfeaaDoor.Fn

theorem From_of (s : ByteArray) (hs : s.size ≤ 50000) (k : Nat) (hk : 1000000 ≤ k) {i a b : ByteArray} (h : split s = (i, [], 0, 0)) (hi : bs i ≠ []) (hz : i.size ≤ 50000) (h2 : strictL i = (a, b, 0)) : path_From.f k s = some (a, b, false, 0, 0) := by
  have hne : (i.toList == ([] : List UInt8)) = false := by rw [toList_bs, beq_eq_false_iff_ne]; exact hi
  unfold path_From.f
  rw [pathsplit_is s (by omega), Option.bind_some, h]
  simp only []
  rw [if_pos trivial, if_neg (by rw [toList_bs]; exact hi), addrStrict_is i (by omega) k hk, Option.bind_some, h2]
  simp only []
  rw [if_pos trivial, if_pos trivial, options_none k (by omega), Option.bind_some, hne]
end Go.Proofs.YtgaaogijfikfeaaDoor.Pl
set_option linter.unusedVariables false
set_option linter.unusedSimpArgs false
namespace Go.Proofs.YtgaaogijfikfeaaDoor.Pl
open Go.RowKit Go.Proofs.YtgaaogijfikfeaaDoorW.PrintWords Go.Proofs.YtgaaogijfikfeaaDoor.Fn

/-! digits -/
def digitB (c : UInt8) : Bool := decide (48 ≤ c.toNat) && decide (c.toNat ≤ 57)
def valL (v : Nat) (l : Bytes) : Nat := l.foldl (fun v c => 10 * v + (c.toNat - 48)) v
theorem valL_cons (v : Nat) (c : UInt8) (l : Bytes) : valL v (c :: l) = valL (10 * v + (c.toNat - 48)) l := by unfold valL; rw [List.foldl_cons]
theorem valL_add : ∀ (l : Bytes) (v : Nat), valL v l = v * 10 ^ l.length + valL 0 l
  | [], v => by simp [valL]
  | c :: l, v => by
    have h1 := valL_add l (10 * v + (c.toNat - 48))
    have h2 := valL_add l (10 * 0 + (c.toNat - 48))
    rw [valL_cons, valL_cons, h1, h2, List.length_cons, Nat.pow_succ]
    generalize 10 ^ l.length = p
    generalize c.toNat - 48 = d
    generalize valL 0 l = q
    rw [Nat.add_mul, Nat.add_mul, Nat.mul_zero, Nat.zero_mul, Nat.zero_add, ← Nat.add_assoc]
    congr 1
    congr 1
    rw [Nat.mul_comm 10 v, Nat.mul_assoc, Nat.mul_comm 10 p]
theorem number_l0 (s : ByteArray) (hs : s.size ≤ 9) (hne : bs s ≠ []) : ∀ (rest : Bytes) (i v k : Nat), (bs s).drop i = rest → rest.all digitB = true → i ≤ (bs s).length → v < 10 ^ i → rest.length < k →
    path_number.l0 k s (v : Int) (s.size : Int) (i : Int) = some ((valL v rest : Nat) : Int)
  | [], i, v, k, hd, ha, hi, hv, hk => by
    obtain ⟨k, rfl⟩ : ∃ j, k = j + 1 := ⟨k - 1, by omega⟩
    have := drop_nil hd
    rw [bs_length] at this
    rw [path_number.l0, if_neg (by omega), if_neg (by rw [toList_bs]; exact hne)]
    rfl
  | c :: rest, i, v, k, hd, ha, hi, hv, hk => by
    obtain ⟨k, rfl⟩ : ∃ j, k = j + 1 := ⟨k - 1, by omega⟩
    obtain ⟨h1, h2, h3, h4⟩ := drop_cons hd
    have h5 : i < s.size := by rw [bs_length] at h1; exact h1
    rw [List.all_cons, Bool.and_eq_true] at ha
    have hc := ha.1
    unfold digitB at hc
    rw [Bool.and_eq_true, decide_eq_true_eq, decide_eq_true_eq] at hc
    simp only [List.length_cons] at hk
    have hp : 10 ^ i ≤ 10 ^ 8 := Nat.pow_le_pow_right (by decide) (by omega)
    have e1 : wrap64 (wrap64 (10 * (v : Int)) + (((c.toNat : Int) - 48) % 256)) = ((10 * v + (c.toNat - 48) : Nat) : Int) := by
      have e2 : wrap64 (10 * (v : Int)) = ((10 * v : Nat) : Int) := by rw [wrap_id (by omega) (by omega)]; omega
      rw [e2, wrap_id (by omega) (by omega)]
      omega
    rw [path_number.l0, if_pos (by omega), if_pos (by omega), if_pos (by omega), bt_drop hd, if_neg (by omega), if_neg (by omega), if_neg (by omega), e1, wrap_succ i (by omega),
      number_l0 s hs hne rest (i + 1) _ k h3 ha.2 (by omega) (by rw [Nat.pow_succ]; omega) (by omega)]
    rfl
theorem number_is (l : Bytes) (ha : l.all digitB = true) (h1 : l ≠ []) (h9 : l.length ≤ 9) (k : Nat) (hk : 10 ≤ k) : path_number.f k (str l) = some ((valL 0 l : Nat) : Int) := by
  unfold path_number.f
  exact number_l0 (str l) (by rw [str_size]; exact h9) (by rw [bs_str]; exact h1) l 0 0 k (by rw [bs_str]; rfl) ha (by omega) (by decide) (by omega)

/-! what is cut, and parted -/
theorem upto_app (c : UInt8) : ∀ (w r : Bytes), c ∉ w → upto c (w ++ c :: r) = w.length
  | [], r, _ => by rw [List.nil_append, upto, if_pos rfl]; rfl
  | d :: w, r, h => by
    rw [List.cons_append, upto, if_neg (fun e => h (by simp [e])), upto_app c w r (fun hw => h (by simp [hw]))]
    simp
theorem cutAt_app (c : UInt8) (w r : Bytes) (h : c ∉ w) : cutAt c (str (w ++ c :: r)) = (str w, str r, true) := by
  have e : Lib.cut (w ++ c :: r) [c] = (w, r, true) := by
    have hi : Lib.index (w ++ c :: r) [c] = (w.length : Int) := by rw [index_one, upto_app c w r h, if_neg (by simp)]
    unfold Lib.cut
    rw [hi, if_pos (by omega)]
    simp
  unfold cutAt
  rw [bs_str, e]
theorem splitL_none (c : UInt8) : ∀ w : Bytes, c ∉ w → splitL c w = [w]
  | [], _ => rfl
  | d :: w, h => by rw [splitL, if_neg (fun e => h (by simp [e])), splitL_none c w (fun hw => h (by simp [hw]))]
theorem splitL_app (c : UInt8) : ∀ w r : Bytes, c ∉ w → splitL c (w ++ c :: r) = w :: splitL c r
  | [], r, _ => by rw [List.nil_append, splitL, if_pos rfl]
  | d :: w, r, h => by rw [List.cons_append, splitL, if_neg (fun e => h (by simp [e])), splitL_app c w r (fun hw => h (by simp [hw]))]
theorem ne0_str (l : Bytes) : ne0 (str l) = !l.isEmpty := by
  unfold ne0
  rw [toList_str]
theorem params_str (l : Bytes) : params (str l) = ((splitL 32 l).filter (fun w => !w.isEmpty)).map str := by
  have h := cuts_split 32 (str l).size (str l) (Nat.le_refl _)
  rw [bs_str] at h
  unfold params
  rw [← h, List.filter_map, List.map_map]
  have : ∀ x : ByteArray, ((fun w : Bytes => !w.isEmpty) ∘ bs) x = ne0 x := by
    intro x
    show (!(bs x).isEmpty) = _
    unfold ne0
    rw [toList_bs]
  rw [show ((fun w : Bytes => !w.isEmpty) ∘ bs) = ne0 from funext this]
  rw [show str ∘ bs = id from funext str_bs, List.map_id]
theorem textL_head {a b : ByteArray} (h : right a b = true) : begins 64 (str (textL (bs a) (bs b))) = false ∧ textL (bs a) (bs b) ≠ [] := by
  obtain ⟨d1, n1, p1, f1, s1, s2⟩ := right_parts h
  have key : ∃ c r, localL (bs a) = c :: r ∧ c ≠ 64 := by
    unfold localL
    by_cases hd : dottedL (bs a) = true
    · rw [if_pos hd]
      cases hb : bs a with
      | nil => exact absurd hb n1
      | cons c r =>
        refine ⟨c, r, rfl, ?_⟩
        have := dotted_bytes hd c (by rw [hb]; simp)
        rcases this with h1 | rfl
        · exact (atomic_not c h1).2.2
        · decide
    · rw [if_neg hd]
      exact ⟨34, _, rfl, by decide⟩
  obtain ⟨c, r, e, hc⟩ := key
  unfold begins textL
  rw [bs_str, e]
  constructor
  · simp [hc]
  · simp
theorem split_show {a b : ByteArray} (h : right a b = true) (r : Bytes) (hr : r = [] ∨ ∃ t, r = 32 :: t) : split (str (showP a b ++ r)) = (str (textL (bs a) (bs b)), ((splitL 32 r).filter (fun w => !w.isEmpty)).map str, 0, 0) := by
  have hc : closing (bs (str (showP a b ++ r))) = (((textL (bs a) (bs b)).length + 1 : Nat) : Int) := by
    rw [bs_str]
    unfold showP
    rw [List.cons_append, List.append_assoc]
    exact closing_text h r
  obtain ⟨h1, h2⟩ := textL_head h
  have e1 : (str (showP a b ++ r)).extract 1 ((textL (bs a) (bs b)).length + 1) = str (textL (bs a) (bs b)) := by
    rw [str_extract]
    unfold showP
    congr 1
    simp
  have e2 : (str (showP a b ++ r)).extract ((textL (bs a) (bs b)).length + 1 + 1) (str (showP a b ++ r)).size = str r := by
    rw [str_extract, str_size]
    unfold showP
    congr 1
    rw [List.take_length, List.cons_append, List.append_assoc, List.drop_succ_cons]
    have : (textL (bs a) (bs b) ++ ([62] ++ r)) = (textL (bs a) (bs b) ++ [62]) ++ r := by simp
    rw [this, List.drop_left' (by simp)]
  have hro : routed (str (textL (bs a) (bs b))) = (str (textL (bs a) (bs b)), true) := by
    unfold routed
    rw [h1, if_neg (by decide)]
  unfold split
  rw [hc, if_neg (by omega), Int.toNat_natCast]
  unfold splitAt
  rw [e1, e2, hro]
  simp only [if_true]
  have hb : ¬ (ne0 (str r) = true ∧ begins 32 (str r) = false) := by
    rintro ⟨q1, q2⟩
    rcases hr with rfl | ⟨t, rfl⟩
    · rw [ne0_str] at q1; cases q1
    · unfold begins at q2
      rw [bs_str] at q2
      simp at q2
  rw [if_neg hb, params_str]
theorem strict_text {a b : ByteArray} (h : right a b = true) : strictL (str (textL (bs a) (bs b))) = (a, b, 0) := by
  unfold strictL
  rw [parse_text h, if_pos rfl, bs_str, if_pos rfl]
theorem digits_no {l : Bytes} (h : l.all digitB = true) (c : UInt8) (hc : digitB c = false) : c ∉ l := fun hm => by
  rw [List.all_eq_true.1 h c hm] at hc
  cases hc
def sizeL : Bytes := [83, 105, 122, 101]
def bodyL : Bytes := [98, 111, 100, 121]
def mimeL : Bytes := [56, 66, 73, 84, 77, 73, 77, 69]
theorem rdS (l : List Bytes) (i : Nat) : rdOf ByteArray.empty (l.map str) (i : Int) = str (l.getD i []) := by
  unfold rdOf
  rw [Int.toNat_natCast, List.getD_eq_getElem?_getD, List.getD_eq_getElem?_getD, List.getElem?_map]
  cases l[i]? <;> rfl
theorem options_two (ds : Bytes) (ha : ds.all digitB = true) (h1 : ds ≠ []) (h9 : ds.length ≤ 9) (a b : ByteArray) (k : Nat) (hk : 100 ≤ k) :
    path_options.f k a b false 0 (([sizeL ++ 61 :: ds, bodyL ++ 61 :: mimeL] : List Bytes).map str) = some (a, b, false, ((valL 0 ds : Nat) : Int), 0) := by
  obtain ⟨k, rfl⟩ : ∃ j, k = j + 1 + 1 + 1 := ⟨k - 3, by omega⟩
  have c1 : strings_Cut.f (str (sizeL ++ 61 :: ds)) ⟨#[61]⟩ = some (str sizeL, str ds, true) := by
    rw [cutAt_is 61 _ (by rw [str_size, List.length_append, List.length_cons]; show 4 + _ ≤ _; omega), cutAt_app 61 sizeL ds (by decide)]
  have c2 : strings_Cut.f (str (bodyL ++ 61 :: mimeL)) ⟨#[61]⟩ = some (str bodyL, str mimeL, true) := by
    rw [cutAt_is 61 _ (by decide), cutAt_app 61 bodyL mimeL (by decide)]
  have g1 : glyph_Fold.f (str sizeL) = some (str [115, 105, 122, 101]) := by decide +kernel
  have g2 : glyph_Fold.f (str bodyL) = some (str [98, 111, 100, 121]) := by decide +kernel
  have g3 : glyph_Fold.f (str mimeL) = some (str [56, 98, 105, 116, 109, 105, 109, 101]) := by decide +kernel
  unfold path_options.f
  rw [path_options.l0, if_pos (by simp), if_pos (by decide), if_pos (by simp), show (0 : Int) = ((0 : Nat) : Int) from rfl, rdS]
  simp only [List.getD_cons_zero]
  rw [c1, Option.bind_some]
  simp only []
  rw [g1, Option.bind_some, toList_str, if_pos rfl, number_is ds ha h1 h9 (k + 1 + 1) (by omega), Option.bind_some, if_neg (by decide), if_neg (by omega), wrap_succ 0 (by decide)]
  rw [path_options.l0, if_pos (by simp), if_pos (by omega), if_pos (by simp), rdS]
  simp only [List.getD_cons_succ, List.getD_cons_zero]
  rw [c2, Option.bind_some]
  simp only []
  rw [g2, Option.bind_some, toList_str, if_neg (by decide), if_pos rfl, g3, Option.bind_some, toList_str, if_neg (by decide), if_neg (by decide), if_pos rfl, wrap_succ 1 (by decide)]
  rw [path_options.l0, if_neg (by simp)]
  rfl
/-! the law -/
theorem digit_of (n : Nat) : digitB (UInt8.ofNat (48 + n % 10)) = true ∧ (UInt8.ofNat (48 + n % 10)).toNat = 48 + n % 10 := by
  have h : (UInt8.ofNat (48 + n % 10)).toNat = 48 + n % 10 := by
    rw [UInt8.toNat_ofNat']
    omega
  refine ⟨?_, h⟩
  unfold digitB
  rw [h]
  simp
  omega
theorem push_digit (n : Nat) (hn : n ≤ 999999999) : strOfNums [(wrap64 (48 + (Int.tmod (n : Int) 10))) % 256] = str [UInt8.ofNat (48 + n % 10)] := by
  have e : Int.tmod (n : Int) 10 = ((n % 10 : Nat) : Int) := by
    rw [Int.tmod_eq_emod_of_nonneg (by omega)]
    omega
  rw [nums_one, e, wrap_id (by omega) (by omega)]
  congr 3
  omega
theorem domain_of_right {a b : ByteArray} (h : right a b = true) : b.size ≤ 254 := by
  have hs := (right_parts h).2.2.2.2.2
  unfold textL at hs
  rw [List.length_append, List.length_cons, bs_length] at hs
  omega
theorem pow_room {n m : Nat} (h : n < 10 ^ (9 - m)) (h0 : 0 < n) : m ≤ 8 := by
  rcases Nat.lt_or_ge m 9 with h1 | h1
  · omega
  · rw [show 9 - m = 0 by omega, Nat.pow_zero] at h
    omega
theorem pow_less {n m : Nat} (h : n < 10 ^ (9 - m)) (h8 : m ≤ 8) : n / 10 < 10 ^ (9 - (m + 1)) := by
  rw [show 9 - m = (9 - (m + 1)) + 1 by omega, Nat.pow_succ] at h
  generalize 10 ^ (9 - (m + 1)) = p at h ⊢
  omega
theorem push_step (n : Nat) (acc : Bytes) (size : Nat) (hn : n < 10 ^ (9 - acc.length)) (h9 : acc.length ≤ 9) (ha : acc.all digitB = true) (hval : n * 10 ^ acc.length + valL 0 acc = size) (hor : n > 0 ∨ acc = []) :
    strOfNums [(wrap64 (48 + (Int.tmod (n : Int) 10))) % 256] = str [UInt8.ofNat (48 + n % 10)] ∧ wrap64 (Int.tdiv (n : Int) 10) = ((n / 10 : Nat) : Int) ∧ (UInt8.ofNat (48 + n % 10) :: acc).all digitB = true ∧
    n / 10 < 10 ^ (9 - (UInt8.ofNat (48 + n % 10) :: acc).length) ∧ acc.length ≤ 8 ∧ n / 10 * 10 ^ (UInt8.ofNat (48 + n % 10) :: acc).length + valL 0 (UInt8.ofNat (48 + n % 10) :: acc) = size ∧ n ≤ 999999999 := by
  have hn9 : n ≤ 999999999 := by
    have h1 : 10 ^ (9 - acc.length) ≤ 10 ^ 9 := Nat.pow_le_pow_right (by decide) (by omega)
    have h2 : n < 10 ^ 9 := Nat.lt_of_lt_of_le hn h1
    have h3 : (10 : Nat) ^ 9 = 1000000000 := by decide
    rw [h3] at h2
    clear hn h1 h3 hval
    omega
  obtain ⟨d1, d2⟩ := digit_of n
  have h8 : acc.length ≤ 8 := by
    rcases hor with h0 | rfl
    · exact pow_room hn h0
    · simp
  have hless := pow_less hn h8
  refine ⟨push_digit n hn9, ?_, by rw [List.all_cons, d1, ha]; rfl, by rw [List.length_cons]; exact hless, h8, ?_, hn9⟩
  · clear hn hval hless
    rw [Int.tdiv_eq_ediv_of_nonneg (by omega), wrap_id (by omega) (by omega)]
    omega
  · rw [List.length_cons, valL_cons, valL_add, d2, Nat.pow_succ, ← hval]
    clear hn hval hless
    generalize 10 ^ acc.length = p
    have e2 : 10 * 0 + (48 + n % 10 - 48) = n % 10 := by omega
    rw [e2, ← Nat.add_assoc]
    congr 1
    rw [show n / 10 * (p * 10) = (n / 10 * 10) * p by rw [Nat.mul_comm p 10, Nat.mul_assoc], ← Nat.add_mul]
    congr 1
    omega
set_option maxHeartbeats 2000000 in
theorem back_rounds (a b : ByteArray) (h : right a b = true) (size : Nat) (hsz : size ≤ 999999999) (k0 : Nat) (hk0 : 1000000 ≤ k0) :
    ∀ (f n : Nat) (acc : Bytes) (k : Nat), k0 + f + 1 ≤ k → acc.all digitB = true → acc.length + f = 10 → n < 10 ^ (9 - acc.length) → acc.length ≤ 9 → (acc = [] → n = size) → n * 10 ^ acc.length + valL 0 acc = size →
    bulletinlaw28_PathBack.l0 k (size : Int) (str (showP a b)) (str acc) (n : Int) a b = some true := by
  intro f
  induction f with
  | zero => intro n acc k _ _ h1 _ h2; omega
  | succ f ih =>
    intro n acc k hk ha hlen hn h9 hnil hval
    obtain ⟨k, rfl⟩ : ∃ j, k = j + 1 := ⟨k - 1, by omega⟩
    have hs := right_parts h
    have ha64 := hs.2.2.2.2.1
    have hb := domain_of_right h
    have ht := textL_length (bs a) (bs b)
    rw [bs_length, bs_length] at ht
    have hshow : (showP a b).length = (textL (bs a) (bs b)).length + 2 := by unfold showP; simp
    have push : (n > 0 ∨ acc = []) → ((some (([(wrap64 (48 + (Int.tmod (n : Int) 10))) % 256] : List Int) : List Int)).bind fun y326 => (if (strOfNums y326).size + (str acc).size ≤ 9223372036854775807 then (bulletinlaw28_PathBack.l0 k (size : Int) (str (showP a b)) ((strOfNums y326) ++ str acc) (wrap64 (Int.tdiv (n : Int) 10)) a b) else (none))) = some true := by
      intro hor
      obtain ⟨q0, q1, q2, q3, q4, q5, q6⟩ := push_step n acc size hn h9 ha hval hor
      rw [Option.bind_some, q0, if_pos (by rw [str_size, str_size]; simp only [List.length_cons, List.length_nil]; omega), str_app, q1]
      exact ih (n / 10) (UInt8.ofNat (48 + n % 10) :: acc) k (by omega) q2 (by simp only [List.length_cons]; omega) q3 (by simp only [List.length_cons]; omega) (fun e => by cases e) q5
    rw [bulletinlaw28_PathBack.l0]
    by_cases h0 : (n : Int) > 0
    · rw [if_pos h0]
      exact push (.inl (by omega))
    rw [if_neg h0, toList_str]
    by_cases hne : acc = []
    · rw [if_pos hne]
      exact push (.inr hne)
    rw [if_neg hne]
    have hn0 : n = 0 := by clear hn hval push; omega
    subst hn0
    have hv : valL 0 acc = size := by rw [Nat.zero_mul, Nat.zero_add] at hval; exact hval
    clear hn hval push hnil ih
    have e1 : (str (showP a b) ++ (⟨#[32, 83, 105, 122, 101, 61]⟩ : ByteArray)) = str (showP a b ++ (32 :: (sizeL ++ [61]))) := by
      rw [← str_app]; rfl
    have e3 : ((str (showP a b) ++ (⟨#[32, 83, 105, 122, 101, 61]⟩ : ByteArray)) ++ str acc) ++ (⟨#[32, 32, 98, 111, 100, 121, 61, 56, 66, 73, 84, 77, 73, 77, 69]⟩ : ByteArray) = str (showP a b ++ (32 :: ((sizeL ++ 61 :: acc) ++ 32 :: ([] ++ 32 :: (bodyL ++ 61 :: mimeL))))) := by
      rw [e1, str_app, show (⟨#[32, 32, 98, 111, 100, 121, 61, 56, 66, 73, 84, 77, 73, 77, 69]⟩ : ByteArray) = str (32 :: 32 :: (bodyL ++ 61 :: mimeL)) from rfl, str_app]
      congr 1
      simp
    have g1 : (str (showP a b)).size + 6 ≤ 9223372036854775807 := by rw [str_size, hshow]; omega
    have g2 : (str (showP a b) ++ (⟨#[32, 83, 105, 122, 101, 61]⟩ : ByteArray)).size + (str acc).size ≤ 9223372036854775807 := by
      rw [ByteArray.size_append, str_size, str_size, hshow]
      show _ + 6 + _ ≤ _
      omega
    have g3 : ((str (showP a b) ++ (⟨#[32, 83, 105, 122, 101, 61]⟩ : ByteArray)) ++ str acc).size + 15 ≤ 9223372036854775807 := by
      rw [ByteArray.size_append, ByteArray.size_append, str_size, str_size, hshow]
      show _ + 6 + _ + 15 ≤ _
      omega
    have no32 : (32 : UInt8) ∉ sizeL ++ 61 :: acc := by
      intro hm
      rcases List.mem_append.1 hm with hm | hm
      · revert hm; decide
      · rcases List.mem_cons.1 hm with hm | hm
        · revert hm; decide
        · exact digits_no ha 32 (by decide) hm
    have hsp1 := split_show h (32 :: ((sizeL ++ 61 :: acc) ++ 32 :: ([] ++ 32 :: (bodyL ++ 61 :: mimeL)))) (.inr ⟨_, rfl⟩)
    have hparts : ((splitL 32 (32 :: ((sizeL ++ 61 :: acc) ++ 32 :: ([] ++ 32 :: (bodyL ++ 61 :: mimeL))))).filter (fun w => !w.isEmpty)) = [sizeL ++ 61 :: acc, bodyL ++ 61 :: mimeL] := by
      have := splitL_app 32 [] ((sizeL ++ 61 :: acc) ++ 32 :: ([] ++ 32 :: (bodyL ++ 61 :: mimeL))) (by simp)
      rw [List.nil_append] at this
      rw [this, splitL_app 32 _ _ no32, splitL_app 32 [] _ (by simp), splitL_none 32 (bodyL ++ 61 :: mimeL) (by decide)]
      rfl
    rw [hparts] at hsp1
    have hsp2 := split_show h [] (.inl rfl)
    rw [List.append_nil, show ((splitL 32 ([] : Bytes)).filter (fun w => !w.isEmpty)).map str = [] from rfl] at hsp2
    obtain ⟨t1, t2⟩ := textL_head h
    have tne : bs (str (textL (bs a) (bs b))) ≠ [] := by rw [bs_str]; exact t2
    have tne' : ((str (textL (bs a) (bs b))).toList == ([] : List UInt8)) = false := by rw [toList_str, beq_eq_false_iff_ne]; exact t2
    have hst := strict_text h
    have f1 : path_From.f k (str (showP a b ++ (32 :: ((sizeL ++ 61 :: acc) ++ 32 :: ([] ++ 32 :: (bodyL ++ 61 :: mimeL)))))) = some (a, b, false, (size : Int), 0) := by
      have hz2 : (str (showP a b ++ (32 :: ((sizeL ++ 61 :: acc) ++ 32 :: ([] ++ 32 :: (bodyL ++ 61 :: mimeL)))))).size ≤ 50000 := by
        rw [str_size, List.length_append, hshow]
        have : (32 :: ((sizeL ++ 61 :: acc) ++ 32 :: ([] ++ 32 :: (bodyL ++ 61 :: mimeL)))).length = acc.length + 21 := by simp [sizeL, bodyL, mimeL]
        omega
      unfold path_From.f
      rw [pathsplit_is _ (by omega), Option.bind_some, hsp1]
      simp only []
      rw [if_pos trivial, if_neg (by rw [toList_bs]; exact tne), addrStrict_is _ (by rw [str_size]; omega) k (by omega), Option.bind_some, hst]
      simp only []
      rw [if_pos trivial, if_pos trivial, tne', options_two acc ha hne h9 a b k (by omega), Option.bind_some, hv]
    have f3 : path_From.f k (str (showP a b)) = some (a, b, false, 0, 0) :=
      From_of (str (showP a b)) (by rw [str_size, hshow]; omega) k (by omega) hsp2 tne (by rw [str_size]; omega) hst
    have f2 : path_To.f k (str (showP a b)) (⟨#[120, 46, 111, 114, 103]⟩ : ByteArray) = some (a, b, 0) := by
      obtain ⟨k, rfl⟩ : ∃ j, k = j + 1 := ⟨k - 1, by omega⟩
      have hnp : fold (textL (bs a) (bs b)) ≠ postL := by
        intro e
        have hm : (64 : UInt8) ∈ fold (textL (bs a) (bs b)) := by
          unfold textL
          rw [fold_app, fold_cons]
          simp [foldB]
        rw [e] at hm
        revert hm
        decide
      unfold path_To.f
      rw [pathsplit_is _ (by rw [str_size, hshow]; omega), Option.bind_some, hsp2]
      simp only []
      rw [if_pos trivial, glyphFold_is _ (by rw [str_size]; omega), Option.bind_some, toList_str, bs_str, if_neg (show ¬ fold (textL (bs a) (bs b)) = [112, 111, 115, 116, 109, 97, 115, 116, 101, 114] from hnp), addrStrict_is _ (by rw [str_size]; omega) _ (by omega), Option.bind_some, hst]
      simp only []
      rw [path_To.j0]
      simp
    rw [if_pos g1, if_pos g2, if_pos g3, e3, f1, Option.bind_some, f2, Option.bind_some, f3, Option.bind_some]
    simp
theorem PathBack (a0 a1 : ByteArray) (n : Int) : ∃ k, bulletinlaw28_PathBack.f k a0 a1 n = some true := by
  refine ⟨1000000 + 100 + 1, ?_⟩
  generalize hk : (1000000 : Nat) = k
  have hw := works28 (k + 100 + 1) (by omega)
  unfold bulletinlaw28_PathBack.f
  have yes : bulletinlaw28_PathBack.j0 (k + 100 + 1) n true a0 a1 = some true := by rw [bulletinlaw28_PathBack.j0, if_pos rfl]
  rw [hw, Option.bind_some, if_pos rfl]
  simp only [bulletinlaw13_To.f, Option.bind_some]
  by_cases h1 : (a0.size : Int) > 300
  · rw [if_pos h1, yes]
  rw [if_neg h1]
  by_cases h2 : (a1.size : Int) > 300
  · rw [if_pos h2, yes]
  rw [if_neg h2]
  by_cases h3 : n < 0
  · rw [if_pos h3, yes]
  rw [if_neg h3]
  by_cases h4 : n > 999999999
  · rw [if_pos h4, yes]
  rw [if_neg h4, addrRight_is a0 a1 (by omega) (by omega) (k + 100 + 1) (by omega), Option.bind_some]
  cases hr : right a0 a1 with
  | false => exact yes
  | true =>
    obtain ⟨N, rfl⟩ := Int.eq_ofNat_of_zero_le (show 0 ≤ n by omega)
    rw [show (!true) = false from rfl, bulletinlaw28_PathBack.j0, if_neg (by decide), pathShow_is a0 a1 (by omega) (by omega) (k + 100) (by omega), Option.bind_some]
    exact back_rounds a0 a1 hr N (by omega) k (by omega) 10 N [] (k + 100) (by omega) rfl rfl (by simp; omega) (by simp) (fun _ => rfl) (by simp [valL])
end Go.Proofs.YtgaaogijfikfeaaDoor.Pl
