/- A part of the proof of this sentence: A post that bears the list's id is refused -/
import Derived.Test.YtcndmhpeolbepaaGreatDoorCRightsLoop3
import Derived.Lib.IndexBytes
set_option linter.unusedVariables false
set_option linter.unusedSimpArgs false
set_option maxHeartbeats 8000000
open Go.RowKit Go.Proofs.YtcndmhpeolbepaaGreatDoorW.PrintWords Go.Proofs.YtcndmhpeolbepaaGreatDoorW.PrintLast Go.Proofs.YtcndmhpeolbepaaGreatDoorW.PrintMore
namespace Go.Proofs.YtcndmhpeolbepaaGreatDoor.Pl
open Go.Proofs.YtcndmhpeolbepaaGreatDoor.Fn
/-! Layer 12, the program's: its Scan is the same machine. -/
set_option maxRecDepth 100000 in
theorem lexsign_is (c : UInt8) : lex_sign.f (c.toNat : Int) = some (signB c) := forall_byte (p := fun c => lex_sign.f (c.toNat : Int) = some (signB c)) (by decide +kernel) c
set_option maxRecDepth 100000 in
theorem lexwhite_is (c : UInt8) : lex_white.f (c.toNat : Int) = some (whiteB c) := forall_byte (p := fun c => lex_white.f (c.toNat : Int) = some (whiteB c)) (by decide +kernel) c
set_option maxRecDepth 100000 in
theorem atomic_apart (c : UInt8) : atomic c = true → c ≠ 13 ∧ c ≠ 40 ∧ c ≠ 34 ∧ c ≠ 32 ∧ c ≠ 9 ∧ signB c = false := forall_byte (p := fun c => atomic c = true → c ≠ 13 ∧ c ≠ 40 ∧ c ≠ 34 ∧ c ≠ 32 ∧ c ≠ 9 ∧ signB c = false) (by decide +kernel) c
set_option maxRecDepth 100000 in
theorem white_apart (c : UInt8) : whiteB c = true → c ≠ 13 ∧ c ≠ 40 ∧ c ≠ 34 ∧ atomic c = false ∧ signB c = false := forall_byte (p := fun c => whiteB c = true → c ≠ 13 ∧ c ≠ 40 ∧ c ≠ 34 ∧ atomic c = false ∧ signB c = false) (by decide +kernel) c
theorem fold_not {c : UInt8} (h : c ≠ 13) (l : Bytes) : foldAt (c :: l) = false := by
 cases l with
 | nil => rfl
 | cons b l =>
  cases l with
  | nil => rfl
  | cons e l => simp only [foldAt]; simp [h]
theorem lexfold_is (s : ByteArray) (hs : s.size ≤ 1000000) : lex_fold.f s = some (foldAt (bs s)) := by
 have hlen := bs_length s
 unfold lex_fold.f
 cases hb : bs s with
 | nil =>
  rw [hb] at hlen
  simp only [List.length_nil] at hlen
  rw [if_neg (by omega)]; rfl
 | cons a l =>
  have h0 : (bs s).drop 0 = a :: l := by simpa using hb
  cases l with
  | nil =>
   rw [hb] at hlen
   simp only [List.length_cons, List.length_nil] at hlen
   rw [if_neg (by omega)]; rfl
  | cons b l =>
   have h1 : (bs s).drop 1 = b :: l := (drop_cons h0).2.2.1
   cases l with
   | nil =>
    rw [hb] at hlen
    simp only [List.length_cons, List.length_nil] at hlen
    rw [if_neg (by omega)]; rfl
   | cons c l =>
    have h2 : (bs s).drop 2 = c :: l := (drop_cons h1).2.2.1
    rw [hb] at hlen
    simp only [List.length_cons] at hlen
    have e0 : bt s 0 = (a.toNat : Int) := bt_drop h0
    have e1 : bt s 1 = (b.toNat : Int) := bt_drop h1
    have e2 : bt s 2 = (c.toNat : Int) := bt_drop h2
    rw [if_pos (by omega), if_pos (by omega), e0]
    by_cases a13 : a = 13
    ·rw [if_pos (by rw [a13]; rfl), if_pos (by omega), e1]
     by_cases b10 : b = 10
     ·rw [if_pos (by rw [b10]; rfl), if_pos (by omega), e2, lexwhite_is, a13, b10]
      simp [foldAt]
     rw [if_neg (c := (b.toNat : Int) = 10) (fun h => b10 ((byte_ofNat b 10 (by decide)).1 h))]
     simp [foldAt, b10]
    rw [if_neg (c := (a.toNat : Int) = 13) (fun h => a13 ((byte_ofNat a 13 (by decide)).1 h))]
    simp [foldAt, a13]
def escL : Bytes → Int
 | [] => 9
 | c :: _ => if text c = true then 0 else 3
theorem lexescaped_is (s : ByteArray) : lex_escaped.f s = some (escL (bs s)) := by
 unfold lex_escaped.f
 rw [toList_bs]
 cases hb : bs s with
 | nil => rw [if_pos rfl]; rfl
 | cons c l =>
  have hlen := bs_length s
  rw [hb] at hlen
  simp only [List.length_cons] at hlen
  have e0 : bt s 0 = (c.toNat : Int) := bt_drop (s := s) (i := 0) (by simpa using hb)
  rw [if_neg (by simp), if_pos (by omega), e0, text_is, Option.bind_some]
  show (if text c = true then some (0 : Int) else some 3) = some (if text c = true then 0 else 3)
  cases text c <;> rfl
theorem bs_rest (s : ByteArray) (i : Nat) : bs (s.extract i s.size) = (bs s).drop i := by
 rw [bs_extract, List.take_of_length_le (by rw [bs_length]; exact Nat.le_refl _)]
theorem str_rest (s : ByteArray) (i : Nat) : s.extract i s.size = str ((bs s).drop i) := by
 apply bs_inj
 rw [bs_rest, bs_str]
def QuotSays (s : ByteArray) (k i : Nat) (w l : Bytes) : Prop :=
 (∃ w' r, lex_quoted.l0 k s (numsOf w) (i : Int) = some (2, str w', str r, 0) ∧ r.length ≤ l.length ∧ ∀ acc, scanL acc (.quot w false) l = scanL (acc ++ [(2, w')]) .out r) ∨
 (∃ e, e ≠ 0 ∧ lex_quoted.l0 k s (numsOf w) (i : Int) = some (0, str [], str [], e) ∧ ∀ acc, scanL acc (.quot w false) l = ([], e))
theorem QuotSays.le {s : ByteArray} {k k' i i' : Nat} {w w' l l' : Bytes} (h : QuotSays s k i w l) (hk : lex_quoted.l0 k' s (numsOf w') (i' : Int) = lex_quoted.l0 k s (numsOf w) (i : Int)) (hl : l.length ≤ l'.length) (hs : ∀ acc, scanL acc (.quot w' false) l' = scanL acc (.quot w false) l) : QuotSays s k' i' w' l' := by
 rcases h with ⟨a, r, h1, h2, h3⟩ | ⟨e, h1, h2, h3⟩
 ·exact .inl ⟨a, r, hk.trans h1, by omega, fun acc => (hs acc).trans (h3 acc)⟩
 exact .inr ⟨e, h1, hk.trans h2, fun acc => (hs acc).trans (h3 acc)⟩
theorem lexquoted_l0 (s : ByteArray) (hs : s.size ≤ 1000000) : ∀ (n k i : Nat) (w l : Bytes), l.length ≤ n → n + 1 ≤ k → (bs s).drop i = l → i ≤ (bs s).length → w.length ≤ i → QuotSays s k i w l
 | n, k, i, w, [], hn, hk, hd, hi, hw => by
  obtain ⟨k, rfl⟩ : ∃ j, k = j + 1 := ⟨k - 1, by omega⟩
  have := drop_nil hd
  rw [bs_length] at this hi
  refine .inr ⟨9, by decide, ?_, fun acc => rfl⟩
  rw [lex_quoted.l0, if_neg (by omega)]
  rfl
 | 0, k, i, w, c :: l, hn, hk, hd, hi, hw => by simp at hn
 | n + 1, k, i, w, c :: l, hn, hk, hd, hi, hw => by
  obtain ⟨k, rfl⟩ : ∃ j, k = j + 1 := ⟨k - 1, by omega⟩
  obtain ⟨h1, h2, h3, h4⟩ := drop_cons hd
  have h5 : i < s.size := by rw [bs_length] at h1; exact h1
  simp only [List.length_cons] at hn
  have e1 : wrap64 ((i : Int) + 1) = ((i + 1 : Nat) : Int) := wrap_succ i (by omega)
  have e2 : wrap64 (wrap64 ((i : Int) + 1) + 1) = ((i + 2 : Nat) : Int) := by rw [e1, wrap_succ (i + 1) (by omega)]
  have hl0 : ∀ X : Option (Int × ByteArray × ByteArray × Int), X = lex_quoted.l0 (k + 1) s (numsOf w) (i : Int) → lex_quoted.l0 (k + 1) s (numsOf w) (i : Int) = X := fun X h => h.symm
  have hstart : lex_quoted.l0 (k + 1) s (numsOf w) (i : Int) = (if foldAt (c :: l) = true then (lex_quoted.l0 k s (numsOf w) ((i + 2 : Nat) : Int)) else (if (c.toNat : Int) = 92 then (if escL l = 0 then (lex_quoted.l0 k s (numsOf w ++ [bt s ((i + 1 : Nat) : Int)]) ((i + 2 : Nat) : Int)) else some (0, (⟨#[]⟩ : ByteArray), (⟨#[]⟩ : ByteArray), escL l)) else (if (c.toNat : Int) = 34 then some (2, strOfNums (numsOf w), str l, 0) else (if text c = true then lex_quoted.l0 k s (numsOf w ++ [(c.toNat : Int)]) ((i + 1 : Nat) : Int) else some (0, (⟨#[]⟩ : ByteArray), (⟨#[]⟩ : ByteArray), 3))))) := by
   rw [lex_quoted.l0, if_pos (by omega), if_pos (by omega), if_pos (by omega)]
   simp only [Int.toNat_natCast]
   rw [lexfold_is _ (by simp only [ByteArray.size_extract]; omega), bs_rest, hd, Option.bind_some]
   cases hf : foldAt (c :: l) with
   | true => rw [if_pos rfl, if_pos rfl, e2]
   | false =>
    rw [if_neg (c := false = true) (by decide), if_neg (c := false = true) (by decide), bt_drop hd]
    by_cases c92 : (c.toNat : Int) = 92
    ·rw [if_pos c92, if_pos c92, e1, if_pos (by omega), if_pos (by omega)]
     simp only [Int.toNat_natCast]
     rw [lexescaped_is, bs_rest, h3, Option.bind_some]
     by_cases he : escL l = 0
     ·rw [if_pos he, if_pos he]
      have hne : i + 1 < s.size := by
       rcases Nat.lt_or_ge (i + 1) s.size with q | q
       ·exact q
       have : l = [] := by rw [← h3]; exact List.drop_of_length_le (by rw [bs_length]; exact q)
       rw [this] at he; cases he
      rw [if_pos (by omega), if_pos (by rw [numsOf_length]; omega), wrap_succ (i + 1) (by omega)]
     rw [if_neg he, if_neg he]
    rw [if_neg c92, if_neg c92]
    by_cases c34 : (c.toNat : Int) = 34
    ·rw [if_pos c34, if_pos c34, e1, if_pos (by omega), if_pos (by omega)]
     simp only [Int.toNat_natCast]
     rw [str_rest, h3]
    rw [if_neg c34, if_neg c34, text_is, Option.bind_some]
    cases ht : text c with
    | true => rw [if_pos rfl, if_pos rfl, if_pos (by rw [numsOf_length]; omega), e1]
    | false => rw [if_neg (c := false = true) (by decide), if_neg (c := false = true) (by decide)]
  cases hf : foldAt (c :: l) with
  | true =>
   obtain ⟨t1, t2, t3⟩ := tail_drop hd hf
   rw [hf, if_pos rfl] at hstart
   refine (lexquoted_l0 s hs n k (i + 2) w l.tail (by omega) (by omega) t1 t2 (by omega)).le hstart (by simp; omega) (fun acc => ?_)
   rw [scanL_cons]
   unfold step
   simp only []
   rw [hf, if_pos rfl]
  | false =>
   rw [hf, if_neg (by decide)] at hstart
   by_cases c92 : c = 92
   ·rw [if_pos (by rw [c92]; rfl)] at hstart
    have hst : ∀ acc, scanL acc (.quot w false) (c :: l) = scanL acc (.quot w true) l := by
     intro acc
     rw [scanL_cons]
     unfold step
     simp only []
     rw [hf, if_neg (by decide), if_pos c92]
    cases hl : l with
    | nil =>
     rw [hl] at hstart
     refine .inr ⟨9, by decide, hstart.trans rfl, fun acc => ?_⟩
     rw [← hl, hst, hl]
     rfl
    | cons x l2 =>
     have hdx : (bs s).drop (i + 1) = x :: l2 := by rw [h3, hl]
     obtain ⟨g1, g2, g3, g4⟩ := drop_cons hdx
     have hsx : ∀ acc, scanL acc (.quot w false) (c :: x :: l2) = if text x = true then scanL acc (.quot (w ++ [x]) false) l2 else ([], 3) := by
      intro acc
      rw [← hl, hst, hl, scanL_cons]
      unfold step
      cases text x <;> rfl
     rw [hl] at hstart hn
     simp only [List.length_cons] at hn
     cases ht : text x with
     | true =>
      rw [show escL (x :: l2) = 0 by show (if text x = true then (0 : Int) else 3) = 0; rw [ht]; rfl, if_pos rfl, bt_drop hdx, show numsOf w ++ [(x.toNat : Int)] = numsOf (w ++ [x]) by simp [numsOf]] at hstart
      refine (lexquoted_l0 s hs n k (i + 2) (w ++ [x]) l2 (by omega) (by omega) g3 (by omega) (by simp; omega)).le hstart (by simp; omega) (fun acc => ?_)
      rw [hsx, ht, if_pos rfl]
     | false =>
      rw [show escL (x :: l2) = 3 by show (if text x = true then (0 : Int) else 3) = 3; rw [ht]; rfl, if_neg (by decide)] at hstart
      exact .inr ⟨3, by decide, hstart, fun acc => by rw [hsx, ht]; rfl⟩
   rw [if_neg (c := (c.toNat : Int) = 92) (fun h => c92 ((byte_ofNat c 92 (by decide)).1 h))] at hstart
   by_cases c34 : c = 34
   ·rw [if_pos (by rw [c34]; rfl), strOfNums_of] at hstart
    refine .inl ⟨w, l, hstart, by simp, fun acc => ?_⟩
    rw [scanL_cons]
    unfold step
    simp only []
    rw [hf, if_neg (by decide), if_neg c92, if_pos (by rw [c34]; exact text_34), if_pos c34]
   rw [if_neg (c := (c.toNat : Int) = 34) (fun h => c34 ((byte_ofNat c 34 (by decide)).1 h))] at hstart
   cases ht : text c with
   | true =>
    rw [ht, if_pos rfl, show numsOf w ++ [(c.toNat : Int)] = numsOf (w ++ [c]) by simp [numsOf]] at hstart
    refine (lexquoted_l0 s hs n k (i + 1) (w ++ [c]) l (by omega) (by omega) h3 (by omega) (by simp; omega)).le hstart (by simp) (fun acc => ?_)
    rw [scanL_cons]
    unfold step
    simp only []
    rw [hf, ht, if_neg (by decide), if_neg c92, if_pos rfl, if_neg c34]
   | false =>
    rw [ht, if_neg (by decide)] at hstart
    refine .inr ⟨3, by decide, hstart, fun acc => ?_⟩
    rw [scanL_cons]
    unfold step
    simp only []
    rw [hf, ht, if_neg (by decide), if_neg c92, if_neg (by decide)]
def CommSays (s : ByteArray) (k i m : Nat) (l : Bytes) : Prop :=
 (∃ r, lex_comment.l0 k s (m : Int) (i : Int) = some (str r, 0) ∧ r.length ≤ l.length ∧ ∀ acc, scanL acc (.comm m false) l = scanL acc .out r) ∨
 (∃ e, e ≠ 0 ∧ lex_comment.l0 k s (m : Int) (i : Int) = some (str [], e) ∧ ∀ acc, scanL acc (.comm m false) l = ([], e))
theorem CommSays.le {s : ByteArray} {k k' i i' m m' : Nat} {l l' : Bytes} (h : CommSays s k i m l) (hk : lex_comment.l0 k' s (m' : Int) (i' : Int) = lex_comment.l0 k s (m : Int) (i : Int)) (hl : l.length ≤ l'.length) (hs : ∀ acc, scanL acc (.comm m' false) l' = scanL acc (.comm m false) l) : CommSays s k' i' m' l' := by
 rcases h with ⟨r, h1, h2, h3⟩ | ⟨e, h1, h2, h3⟩
 ·exact .inl ⟨r, hk.trans h1, by omega, fun acc => (hs acc).trans (h3 acc)⟩
 exact .inr ⟨e, h1, hk.trans h2, fun acc => (hs acc).trans (h3 acc)⟩
theorem text_40 : text 40 = true := by decide +kernel
theorem text_41 : text 41 = true := by decide +kernel
theorem lexcomment_l0 (s : ByteArray) (hs : s.size ≤ 1000000) : ∀ (n k i m : Nat) (l : Bytes), l.length ≤ n → 3 * n + 3 ≤ k → (bs s).drop i = l → i ≤ (bs s).length → 1 ≤ m → m ≤ 16 → CommSays s k i m l
 | n, k, i, m, [], hn, hk, hd, hi, hm1, hm2 => by
  obtain ⟨k, rfl⟩ : ∃ j, k = j + 1 := ⟨k - 1, by omega⟩
  have := drop_nil hd
  rw [bs_length] at this hi
  refine .inr ⟨9, by decide, ?_, fun acc => rfl⟩
  rw [lex_comment.l0, if_neg (by omega), if_pos (by omega)]
  rfl
 | 0, k, i, m, c :: l, hn, hk, hd, hi, hm1, hm2 => by simp at hn
 | n + 1, k, i, m, c :: l, hn, hk, hd, hi, hm1, hm2 => by
  obtain ⟨k, rfl⟩ : ∃ j, k = j + 3 := ⟨k - 3, by omega⟩
  obtain ⟨h1, h2, h3, h4⟩ := drop_cons hd
  have h5 : i < s.size := by rw [bs_length] at h1; exact h1
  simp only [List.length_cons] at hn
  have e1 : wrap64 ((i : Int) + 1) = ((i + 1 : Nat) : Int) := wrap_succ i (by omega)
  have e2 : wrap64 (wrap64 ((i : Int) + 1) + 1) = ((i + 2 : Nat) : Int) := by rw [e1, wrap_succ (i + 1) (by omega)]
  have hstart : lex_comment.l0 (k + 3) s (m : Int) (i : Int) = (if foldAt (c :: l) = true then (lex_comment.l0 (k + 2) s (m : Int) ((i + 2 : Nat) : Int)) else (if (c.toNat : Int) = 92 then (if escL l = 0 then (lex_comment.l0 (k + 2) s (m : Int) ((i + 2 : Nat) : Int)) else some ((⟨#[]⟩ : ByteArray), escL l)) else (if (c.toNat : Int) = 40 then lex_comment.j1 (k + 2) s (m : Int) (i : Int) (c.toNat : Int) ((m : Int) == 16) else lex_comment.j1 (k + 2) s (m : Int) (i : Int) (c.toNat : Int) false))) := by
   rw [lex_comment.l0, if_pos (by omega), if_pos (by omega), if_pos (by omega)]
   simp only [Int.toNat_natCast]
   rw [lexfold_is _ (by simp only [ByteArray.size_extract]; omega), bs_rest, hd, Option.bind_some]
   cases hf : foldAt (c :: l) with
   | true => rw [if_pos rfl, if_pos rfl, e2]
   | false =>
    rw [if_neg (c := false = true) (by decide), if_neg (c := false = true) (by decide), bt_drop hd]
    by_cases c92 : (c.toNat : Int) = 92
    ·rw [if_pos c92, if_pos c92, e1, if_pos (by omega), if_pos (by omega)]
     simp only [Int.toNat_natCast]
     rw [lexescaped_is, bs_rest, h3, Option.bind_some, wrap_succ (i + 1) (by omega)]
    rw [if_neg c92, if_neg c92]
  cases hf : foldAt (c :: l) with
  | true =>
   obtain ⟨t1, t2, t3⟩ := tail_drop hd hf
   rw [hf, if_pos rfl] at hstart
   refine (lexcomment_l0 s hs n (k + 2) (i + 2) m l.tail (by omega) (by omega) t1 t2 hm1 hm2).le hstart (by simp; omega) (fun acc => ?_)
   rw [scanL_cons]
   unfold step
   simp only []
   rw [hf, if_pos rfl]
  | false =>
   rw [hf, if_neg (by decide)] at hstart
   by_cases c92 : c = 92
   ·rw [if_pos (by rw [c92]; rfl)] at hstart
    have hst : ∀ acc, scanL acc (.comm m false) (c :: l) = scanL acc (.comm m true) l := by
     intro acc
     rw [scanL_cons]
     unfold step
     simp only []
     rw [hf, if_neg (by decide), if_pos c92]
    cases hl : l with
    | nil =>
     rw [hl] at hstart
     refine .inr ⟨9, by decide, hstart.trans rfl, fun acc => ?_⟩
     rw [← hl, hst, hl]
     rfl
    | cons x l2 =>
     have hdx : (bs s).drop (i + 1) = x :: l2 := by rw [h3, hl]
     obtain ⟨g1, g2, g3, g4⟩ := drop_cons hdx
     have hsx : ∀ acc, scanL acc (.comm m false) (c :: x :: l2) = if text x = true then scanL acc (.comm m false) l2 else ([], 3) := by
      intro acc
      rw [← hl, hst, hl, scanL_cons]
      unfold step
      cases text x <;> rfl
     rw [hl] at hstart hn
     simp only [List.length_cons] at hn
     cases ht : text x with
     | true =>
      rw [show escL (x :: l2) = 0 by show (if text x = true then (0 : Int) else 3) = 0; rw [ht]; rfl, if_pos rfl] at hstart
      refine (lexcomment_l0 s hs n (k + 2) (i + 2) m l2 (by omega) (by omega) g3 (by omega) hm1 hm2).le hstart (by simp; omega) (fun acc => ?_)
      rw [hsx, ht, if_pos rfl]
     | false =>
      rw [show escL (x :: l2) = 3 by show (if text x = true then (0 : Int) else 3) = 3; rw [ht]; rfl, if_neg (by decide)] at hstart
      exact .inr ⟨3, by decide, hstart, fun acc => by rw [hsx, ht]; rfl⟩
   rw [if_neg (c := (c.toNat : Int) = 92) (fun h => c92 ((byte_ofNat c 92 (by decide)).1 h))] at hstart
   have hst : text c = true → ∀ acc, scanL acc (.comm m false) (c :: l) = (match commAfter acc (if c = 40 then m + 1 else if c = 41 then m - 1 else m) l with | .inl (a, t, r) => scanL a t r | .inr e => ([], e)) := by
    intro ht acc
    rw [scanL_cons]
    unfold step
    simp only []
    rw [hf, ht, if_neg (by decide), if_neg c92, if_pos rfl]
    all_goals rfl
   by_cases c40 : c = 40
   ·have ht : text c = true := by rw [c40]; exact text_40
    rw [if_pos (by rw [c40]; rfl), lex_comment.j1] at hstart
    by_cases h16 : m = 16
    ·rw [show ((m : Int) == 16) = true by rw [h16]; rfl, if_pos rfl] at hstart
     refine .inr ⟨1, by decide, hstart, fun acc => ?_⟩
     rw [hst ht, if_pos c40]
     unfold commAfter
     rw [if_pos (by omega)]
    rw [show ((m : Int) == 16) = false by rw [beq_eq_false_iff_ne]; omega, if_neg (by decide), if_pos (by rw [c40]; rfl), e1, wrap_id (by omega) (by omega), show ((m : Int) + 1) = ((m + 1 : Nat) : Int) by omega] at hstart
    refine (lexcomment_l0 s hs n (k + 1) (i + 1) (m + 1) l (by omega) (by omega) h3 (by omega) (by omega) (by omega)).le hstart (by simp) (fun acc => ?_)
    rw [hst ht, if_pos c40]
    unfold commAfter
    rw [if_neg (by omega), if_neg (by omega)]
   rw [if_neg (c := (c.toNat : Int) = 40) (fun h => c40 ((byte_ofNat c 40 (by decide)).1 h)), lex_comment.j1, if_neg (by decide), if_neg (c := (c.toNat : Int) = 40) (fun h => c40 ((byte_ofNat c 40 (by decide)).1 h))] at hstart
   by_cases c41 : c = 41
   ·have ht : text c = true := by rw [c41]; exact text_41
    rw [if_pos (by rw [c41]; rfl), lex_comment.j2] at hstart
    by_cases h1' : m = 1
    ·rw [show ((m : Int) == 1) = true by rw [h1']; rfl, if_pos rfl, e1, if_pos (by omega), if_pos (by omega), if_neg (by decide)] at hstart
     simp only [Int.toNat_natCast] at hstart
     rw [str_rest, h3] at hstart
     refine .inl ⟨l, hstart, by simp, fun acc => ?_⟩
     rw [hst ht, if_neg c40, if_pos c41, h1']
     rfl
    rw [show ((m : Int) == 1) = false by rw [beq_eq_false_iff_ne]; omega, if_neg (by decide), if_pos (by rw [c41]; rfl), e1, wrap_id (by omega) (by omega), show ((m : Int) - 1) = ((m - 1 : Nat) : Int) by omega] at hstart
    refine (lexcomment_l0 s hs n k (i + 1) (m - 1) l (by omega) (by omega) h3 (by omega) (by omega) (by omega)).le hstart (by simp) (fun acc => ?_)
    rw [hst ht, if_neg c40, if_pos c41]
    unfold commAfter
    rw [if_neg (by omega), if_neg (by omega)]
   rw [if_neg (c := (c.toNat : Int) = 41) (fun h => c41 ((byte_ofNat c 41 (by decide)).1 h)), lex_comment.j2, if_neg (by decide), if_neg (c := (c.toNat : Int) = 41) (fun h => c41 ((byte_ofNat c 41 (by decide)).1 h)), text_is, Option.bind_some] at hstart
   cases ht : text c with
   | true =>
    rw [ht, if_pos rfl, e1] at hstart
    refine (lexcomment_l0 s hs n k (i + 1) m l (by omega) (by omega) h3 (by omega) hm1 hm2).le hstart (by simp) (fun acc => ?_)
    rw [hst ht, if_neg c40, if_neg c41]
    unfold commAfter
    rw [if_neg (by omega), if_neg (by omega)]
   | false =>
    rw [ht, if_neg (by decide)] at hstart
    refine .inr ⟨3, by decide, hstart, fun acc => ?_⟩
    rw [scanL_cons]
    unfold step
    simp only []
    rw [hf, ht, if_neg (by decide), if_neg c92, if_neg (by decide)]
theorem lexatom_l0 (s : ByteArray) (hs : s.size ≤ 1000000) : ∀ (n k i : Nat) (l : Bytes), l.length ≤ n → n + 1 ≤ k → (bs s).drop i = l → i ≤ (bs s).length → 1 ≤ i →
  ∃ j, i ≤ j ∧ j ≤ (bs s).length ∧ lex_next.l0 k s (i : Int) = some (1, str ((bs s).take j), str ((bs s).drop j), 0) ∧ ∀ acc, scanL acc (.atom ((bs s).take i)) l = scanL (acc ++ [(1, (bs s).take j)]) .out ((bs s).drop j)
 | n, k, i, [], hn, hk, hd, hi, h1 => by
  obtain ⟨k, rfl⟩ : ∃ j, k = j + 1 := ⟨k - 1, by omega⟩
  have := drop_nil hd
  have hl := bs_length s
  refine ⟨i, Nat.le_refl _, hi, ?_, fun acc => by rw [hd]; rfl⟩
  rw [lex_next.l0, if_neg (by omega), if_neg (by omega), if_pos (by omega), if_pos (by omega)]
  simp only [Int.toNat_natCast]
  rw [str_rest, show s.extract 0 i = str ((bs s).take i) by apply bs_inj; rw [bs_extract, bs_str, List.drop_zero]]
 | 0, k, i, c :: l, hn, hk, hd, hi, h1 => by simp at hn
 | n + 1, k, i, c :: l, hn, hk, hd, hi, h0 => by
  obtain ⟨k, rfl⟩ : ∃ j, k = j + 1 := ⟨k - 1, by omega⟩
  obtain ⟨h1, h2, h3, h4⟩ := drop_cons hd
  have h5 : i < s.size := by rw [bs_length] at h1; exact h1
  simp only [List.length_cons] at hn
  cases ha : atomic c with
  | true =>
   obtain ⟨j, q1, q2, q3, q4⟩ := lexatom_l0 s hs n k (i + 1) l (by omega) (by omega) h3 (by omega) (by omega)
   refine ⟨j, by omega, q2, ?_, fun acc => ?_⟩
   ·rw [lex_next.l0, if_pos (by omega), if_pos (by omega), bt_drop hd, atomic_is, Option.bind_some, ha, if_pos rfl, wrap_succ i (by omega)]
    exact q3
   rw [scanL_cons]
   unfold step
   simp only []
   rw [ha, if_pos rfl, ← h4]
   exact q4 acc
  | false =>
   refine ⟨i, Nat.le_refl _, by omega, ?_, fun acc => ?_⟩
   ·rw [lex_next.l0, if_pos (by omega), if_pos (by omega), bt_drop hd, atomic_is, Option.bind_some, ha, if_neg (by decide), if_neg (by omega), if_pos (by omega)]
    simp only [Int.toNat_natCast]
    rw [str_rest, show s.extract 0 i = str ((bs s).take i) by apply bs_inj; rw [bs_extract, bs_str, List.drop_zero]]
   rw [hd, scanL_cons, scanL_cons]
   unfold step
   simp only []
   rw [ha, if_neg (by decide)]
theorem wrap_01 : wrap64 ((0 : Int) + 1) = ((1 : Nat) : Int) := wrap_succ 0 (by decide)
theorem lexnext_is (s : ByteArray) (hs : s.size ≤ 1000000) (c : UInt8) (l : Bytes) (hb : bs s = c :: l) (k : Nat) (hk : 3 * s.size + 10 ≤ k) :
  (∃ (kd : Int) (t r : Bytes), lex_next.f k s = some (kd, str t, str r, 0) ∧ r.length ≤ l.length ∧ ∀ acc, scanL acc .out (c :: l) = scanL (if kd = 0 then acc else acc ++ [(kd, t)]) .out r) ∨
  (∃ (kd : Int) (t : Bytes) (r : ByteArray) (e : Int), e ≠ 0 ∧ lex_next.f k s = some (kd, str t, r, e) ∧ ∀ acc, scanL acc .out (c :: l) = ([], e)) := by
 have hlen := bs_length s
 rw [hb] at hlen
 simp only [List.length_cons] at hlen
 have hd : (bs s).drop 0 = c :: l := by rw [hb]; rfl
 have hd1 : (bs s).drop 1 = l := (drop_cons hd).2.2.1
 have hbt : bt s 0 = (c.toNat : Int) := bt_drop hd
 have eE : s.extract 1 s.size = str l := by rw [str_rest, hd1]
 have hsc : ∀ acc, scanL acc .out (c :: l) = (match stepOut acc c l with | .inl (a, t, r) => scanL a t r | .inr e => ([], e)) := by
  intro acc
  rw [scanL_cons]
  rfl
 have hout : ∀ (a b d e f g : Bool), foldAt (c :: l) = a → atomic c = b → signB c = f → whiteB c = g → ∀ acc, stepOut acc c l = if a = true then .inl (acc, .out, l.tail) else if b = true then .inl (acc, .atom [c], l) else if c = 34 then .inl (acc, .quot [] false, l) else if c = 40 then .inl (acc, .comm 1 false, l) else if f = true then .inl (acc ++ [(3, [c])], .out, l) else if g = true then .inl (acc, .out, l) else .inr 3 := by
  intro a b d e f g h1 h2 h3 h4 acc
  unfold stepOut
  rw [h1, h2, h3, h4]
 unfold lex_next.f
 rw [if_pos (by omega), hbt, lexwhite_is, Option.bind_some]
 cases hw : whiteB c with
 | true =>
  obtain ⟨n13, n40, n34, na, ns⟩ := white_apart c hw
  have hf := fold_not n13 l
  rw [if_pos rfl, if_pos (by omega), eE]
  refine .inl ⟨0, [], l, rfl, Nat.le_refl _, fun acc => ?_⟩
  rw [hsc, hout false false false false false true hf na ns hw, if_neg (by decide), if_neg (by decide), if_neg n34, if_neg n40, if_neg (by decide), if_pos rfl, if_pos rfl]
 | false =>
  rw [if_neg (by decide), lexfold_is s hs, Option.bind_some, hb]
  cases hf : foldAt (c :: l) with
  | true =>
   obtain ⟨t1, t2, t3⟩ := tail_drop hd hf
   rw [bs_length] at t2
   rw [if_pos rfl, if_pos (by omega), show s.extract 2 s.size = str l.tail by rw [str_rest]; congr 1]
   refine .inl ⟨0, [], l.tail, rfl, by simp, fun acc => ?_⟩
   rw [hsc, hout true _ false false _ _ hf rfl rfl rfl, if_pos rfl, if_pos rfl]
  | false =>
   rw [if_neg (c := false = true) (by decide)]
   by_cases c40 : c = 40
   ·have na : atomic c = false := by rw [c40]; decide +kernel
    rw [if_pos (by rw [c40]; rfl)]
    obtain ⟨k, rfl⟩ : ∃ j, k = j + 2 := ⟨k - 2, by omega⟩
    have hcm : lex_comment.f (k + 2) s = lex_comment.l0 k s ((1 : Nat) : Int) ((1 : Nat) : Int) := by
     unfold lex_comment.f
     rw [lex_comment.l0, if_pos (by omega), if_pos (by decide), if_pos (by omega), show s.extract (0 : Int).toNat s.size = s from extract_all s, lexfold_is s hs, hb, hf, Option.bind_some, if_neg (by decide), hbt, if_neg (c := (c.toNat : Int) = 92) (by rw [c40]; decide), if_pos (by rw [c40]; rfl), show ((0 : Int) == 16) = false from rfl, lex_comment.j1, if_neg (by decide), if_pos (by rw [c40]; rfl), wrap_01]
    rw [hcm]
    have hso : ∀ acc, scanL acc .out (c :: l) = scanL acc (.comm 1 false) l := by
     intro acc
     rw [hsc, hout false false false false _ _ hf na rfl rfl, if_neg (by decide), if_neg (by decide), if_neg (by rw [c40]; decide), if_pos c40]
    rcases lexcomment_l0 s hs l.length k 1 1 l (Nat.le_refl _) (by omega) hd1 (by rw [hb]; simp) (by decide) (by decide) with ⟨r, h1, h2, h3⟩ | ⟨e, h1, h2, h3⟩
    ·rw [h1]
     exact .inl ⟨0, [], r, rfl, h2, fun acc => by rw [hso, h3, if_pos rfl]⟩
    rw [h2]
    exact .inr ⟨0, [], str [], e, h1, rfl, fun acc => by rw [hso, h3]⟩
   rw [if_neg (c := (c.toNat : Int) = 40) (fun h => c40 ((byte_ofNat c 40 (by decide)).1 h))]
   by_cases c34 : c = 34
   ·have na : atomic c = false := by rw [c34]; decide +kernel
    rw [if_pos (by rw [c34]; rfl)]
    have hso : ∀ acc, scanL acc .out (c :: l) = scanL acc (.quot [] false) l := by
     intro acc
     rw [hsc, hout false false false false _ _ hf na rfl rfl, if_neg (by decide), if_neg (by decide), if_pos c34]
    rcases lexquoted_l0 s hs l.length k 1 [] l (Nat.le_refl _) (by omega) hd1 (by rw [hb]; simp) (by simp) with ⟨w', r, h1, h2, h3⟩ | ⟨e, h1, h2, h3⟩
    ·rw [show lex_quoted.f k s = lex_quoted.l0 k s (numsOf []) ((1 : Nat) : Int) from rfl, h1]
     exact .inl ⟨2, w', r, rfl, h2, fun acc => by rw [hso, h3, if_neg (by decide)]⟩
    rw [show lex_quoted.f k s = lex_quoted.l0 k s (numsOf []) ((1 : Nat) : Int) from rfl, h2]
    exact .inr ⟨0, [], str [], e, h1, rfl, fun acc => by rw [hso, h3]⟩
   rw [if_neg (c := (c.toNat : Int) = 34) (fun h => c34 ((byte_ofNat c 34 (by decide)).1 h)), lexsign_is, Option.bind_some]
   cases hsg : signB c with
   | true =>
    have na : atomic c = false := by
     cases ha : atomic c with
     | false => rfl
     | true => have := (atomic_apart c ha).2.2.2.2.2; rw [hsg] at this; cases this
    rw [if_pos rfl, if_pos (by decide), if_pos (by omega), eE, show s.extract 0 1 = str [c] from extract_one (i := 0) hd]
    refine .inl ⟨3, [c], l, rfl, Nat.le_refl _, fun acc => ?_⟩
    rw [hsc, hout false false false false true false hf na hsg hw, if_neg (by decide), if_neg (by decide), if_neg c34, if_neg c40, if_pos rfl, if_neg (by decide)]
   | false =>
    rw [if_neg (c := false = true) (by decide)]
    obtain ⟨k, rfl⟩ : ∃ j, k = j + 1 := ⟨k - 1, by omega⟩
    cases ha : atomic c with
    | false =>
     rw [lex_next.l0, if_pos (by omega), if_pos (by decide), hbt, atomic_is, ha, Option.bind_some, if_neg (by decide), if_pos rfl]
     refine .inr ⟨0, [], _, 3, by decide, rfl, fun acc => ?_⟩
     rw [hsc, hout false false false false false false hf ha hsg hw, if_neg (by decide), if_neg (by decide), if_neg c34, if_neg c40, if_neg (by decide), if_neg (by decide)]
    | true =>
     rw [lex_next.l0, if_pos (by omega), if_pos (by decide), hbt, atomic_is, ha, Option.bind_some, if_pos rfl, wrap_01]
     obtain ⟨j, q1, q2, q3, q4⟩ := lexatom_l0 s hs l.length k 1 l (Nat.le_refl _) (by omega) hd1 (by rw [hb]; simp) (by decide)
     rw [q3]
     refine .inl ⟨1, _, _, rfl, ?_, fun acc => ?_⟩
     ·rw [hb]
      simp only [List.length_drop, List.length_cons]
      omega
     rw [hsc, hout false true false false _ _ hf ha rfl rfl, if_neg (by decide), if_pos rfl, if_neg (by decide), ← q4 acc, hb]
     rfl
def tok142 (t : Tok) : S194 := ⟨t.1, str t.2⟩
theorem lexScan_l0 : ∀ (n k : Nat) (s : ByteArray) (acc : List Tok), s.size ≤ n → s.size ≤ 1000000 → 4 * n + 20 ≤ k → acc.length + s.size ≤ 1000000 →
  lex_Scan.l0 k s (acc.map tok142) = some ((scanL acc .out (bs s)).1.map tok142, (scanL acc .out (bs s)).2)
 | n, k, s, acc, hn, hs, hk, ha => by
  obtain ⟨k, rfl⟩ : ∃ j, k = j + 1 := ⟨k - 1, by omega⟩
  have hlen := bs_length s
  rw [lex_Scan.l0, toList_bs]
  cases hb : bs s with
  | nil => rw [if_pos rfl]; rfl
  | cons c l =>
   rw [hb] at hlen
   simp only [List.length_cons] at hlen
   obtain ⟨n, rfl⟩ : ∃ j, n = j + 1 := ⟨n - 1, by omega⟩
   rw [if_neg (by simp)]
   rcases lexnext_is s hs c l hb k (by omega) with ⟨kd, t, r, h1, h2, h3⟩ | ⟨kd, t, r, e, h0, h1, h3⟩
   ·rw [h1, Option.bind_some, if_pos rfl, h3]
    by_cases hkd : kd = 0
    ·rw [if_pos hkd, if_pos hkd, lexScan_l0 n k (str r) acc (by rw [str_size]; omega) (by rw [str_size]; omega) (by omega) (by rw [str_size]; omega), bs_str]
    rw [if_neg hkd, if_neg hkd, if_pos (by rw [List.length_map]; omega), show acc.map tok142 ++ [(⟨kd, str t⟩ : S194)] = (acc ++ [(kd, t)]).map tok142 by simp [tok142],
     lexScan_l0 n k (str r) (acc ++ [(kd, t)]) (by rw [str_size]; omega) (by rw [str_size]; omega) (by omega) (by rw [str_size]; simp; omega), bs_str]
   rw [h1, Option.bind_some, if_neg h0, h3]
   rfl
theorem lexScan_is (s : ByteArray) (hs : s.size ≤ 1000000) (k : Nat) (hk : 4 * s.size + 20 ≤ k) : lex_Scan.f k s = some ((scanL [] .out (bs s)).1.map tok142, (scanL [] .out (bs s)).2) := by
 have := lexScan_l0 s.size k s [] (Nat.le_refl _) hs hk (by simpa using hs)
 unfold lex_Scan.f
 exact this
/-! The document's labels, domains, right addresses. -/
def labN (n : Int) : Prop := (97 ≤ n ∧ n ≤ 122) ∨ (65 ≤ n ∧ n ≤ 90) ∨ (48 ≤ n ∧ n ≤ 57) ∨ n = 45
instance (n : Int) : Decidable (labN n) := by unfold labN; infer_instance
/-! Layer 13: right, of an address of any size. -/
theorem domain_short2 {s : ByteArray} (h : domain s = 0) : s.size ≤ 253 := by
 unfold domain at h
 by_cases ha : (dots s).all label = true
 ·rw [if_pos ha] at h
  by_cases hl : domLong s (dots s) = true
  ·rw [if_pos hl] at h; cases h
  unfold domLong at hl
  simp only [Bool.or_eq_true, decide_eq_true_eq, not_or] at hl
  omega
 rw [if_neg ha] at h; cases h
theorem why_short {a b : ByteArray} (h : why a b = 0) : a.size ≤ 64 ∧ b.size ≤ 253 := by
 unfold why at h
 by_cases h1 : domain b = 130 ∨ bs a = [] ∨ plain a = false
 ·rw [if_pos h1] at h; cases h
 rw [if_neg h1] at h
 by_cases h2 : domain b ≠ 0 ∨ 64 < a.size ∨ 254 < (textL (bs a) (bs b)).length
 ·rw [if_pos h2] at h; cases h
 have h3 : domain b = 0 := Classical.byContradiction fun q => h2 (.inl q)
 exact ⟨by have : ¬ 64 < a.size := fun q => h2 (.inr (.inl q)); omega, domain_short2 h3⟩
theorem right_short {a b : ByteArray} (h : right a b = true) : a.size ≤ 64 ∧ b.size ≤ 253 := by
 unfold right at h
 rw [Bool.and_eq_true, decide_eq_true_eq] at h
 exact why_short h.1
end Go.Proofs.YtcndmhpeolbepaaGreatDoor.Pl
namespace Go.Proofs.YtcndmhpeolbepaaGreatDoor.Pl
/-! Layer 19: what is encoded is decoded as it was. -/
/-! The words of an encoded text. -/
/-! A text without =? is read as it is. -/
/-! The signs of a text. -/
theorem raw_ok (s : ByteArray) : ∀ n i, ∀ r ∈ rawFrom s n i, okR r
 | 0, i => by simp [rawFrom]
 | n + 1, i => by
  intro r hr
  rw [rawFrom] at hr
  split at hr
  ·rcases List.mem_cons.1 hr with rfl | hr
   ·exact sign_valid s i
   exact raw_ok s n _ r hr
  simp at hr
theorem get_eq {s : ByteArray} {pos : Nat} (h : pos < s.size) : (bs s).drop pos = (s.get! pos) :: (bs s).drop (pos + 1) := drop_get s pos h
theorem u8_eq (b : UInt8) (x : Int) (h : x = (b.toNat : Int)) : x.toNat.toUInt8 = b := by
 subst h
 show UInt8.ofNat ((b.toNat : Int)).toNat = b
 simp
theorem er_one {r : Nat} (h : r ≤ 127) : er r = [((r : Int)).toNat.toUInt8] := by unfold er Lib.encodeRune; rw [Lib.encodeRuneZ_one (by omega) (by omega)]; rfl
theorem er_two {r : Nat} (h0 : 128 ≤ r) (h1 : r ≤ 2047) : er r = [(192 + (r : Int) / 64).toNat.toUInt8, (128 + (r : Int) % 64).toNat.toUInt8] := by unfold er Lib.encodeRune; rw [Lib.encodeRuneZ_two (by omega) (by omega)]; rfl
theorem er_three {r : Nat} (h : (2048 ≤ r ∧ r < 55296) ∨ (57343 < r ∧ r ≤ 65535)) : er r = [(224 + (r : Int) / 4096).toNat.toUInt8, (128 + (r : Int) / 64 % 64).toNat.toUInt8, (128 + (r : Int) % 64).toNat.toUInt8] := by unfold er Lib.encodeRune; rw [Lib.encodeRuneZ_three (by omega)]; rfl
theorem er_four {r : Nat} (h0 : 65536 ≤ r) (h1 : r ≤ 1114111) : er r = [(240 + (r : Int) / 262144).toNat.toUInt8, (128 + (r : Int) / 4096 % 64).toNat.toUInt8, (128 + (r : Int) / 64 % 64).toNat.toUInt8, (128 + (r : Int) % 64).toNat.toUInt8] := by unfold er Lib.encodeRune; rw [Lib.encodeRuneZ_four (by omega) (by omega)]; rfl
theorem dec_take (s : ByteArray) (pos : Nat) (h : pos < s.size) (hb : badAt s pos = false) : (bs s).drop pos = er (Utf8.decode s pos).1 ++ (bs s).drop (pos + (Utf8.decode s pos).2) := by
 have g0 := get_lt s pos
 have g1 := get_lt s (pos + 1)
 have g2 := get_lt s (pos + 2)
 have g3 := get_lt s (pos + 3)
 unfold badAt at hb
 rw [get_eq h]
 rw [Lib.decode_at] at hb ⊢
 unfold Lib.decodeN at hb ⊢
 by_cases c0 : (s.get! pos).toNat < 128
 ·rw [if_pos c0]
  simp only []
  rw [er_one (by omega), u8_eq (s.get! pos) _ rfl]
  rfl
 rw [if_neg c0] at hb ⊢
 by_cases c1 : (s.get! pos).toNat / 32 = 6 ∧ (1 < s.size - pos ∧ (s.get! (pos + 1)).toNat / 64 = 2)
 ·rw [if_pos c1] at hb ⊢
  by_cases d1 : (s.get! pos).toNat % 32 * 64 + (s.get! (pos + 1)).toNat % 64 ≥ 128
  ·rw [if_pos d1]
   simp only []
   rw [er_two (by omega) (by omega), get_eq (s := s) (pos := pos + 1) (by omega), u8_eq (s.get! pos) _ (by omega), u8_eq (s.get! (pos + 1)) _ (by omega)]
   rfl
  rw [if_neg d1] at hb
  simp at hb
 rw [if_neg c1] at hb ⊢
 by_cases c2 : (s.get! pos).toNat / 16 = 14 ∧ (1 < s.size - pos ∧ (s.get! (pos + 1)).toNat / 64 = 2) ∧ (2 < s.size - pos ∧ (s.get! (pos + 2)).toNat / 64 = 2)
 ·rw [if_pos c2] at hb ⊢
  by_cases d1 : (s.get! pos).toNat % 16 * 4096 + (s.get! (pos + 1)).toNat % 64 * 64 + (s.get! (pos + 2)).toNat % 64 ≥ 2048 ∧ ((s.get! pos).toNat % 16 * 4096 + (s.get! (pos + 1)).toNat % 64 * 64 + (s.get! (pos + 2)).toNat % 64 < 55296 ∨ (57344 ≤ (s.get! pos).toNat % 16 * 4096 + (s.get! (pos + 1)).toNat % 64 * 64 + (s.get! (pos + 2)).toNat % 64 ∧ (s.get! pos).toNat % 16 * 4096 + (s.get! (pos + 1)).toNat % 64 * 64 + (s.get! (pos + 2)).toNat % 64 ≤ 1114111))
  ·rw [if_pos d1]
   simp only []
   rw [er_three (by omega), get_eq (s := s) (pos := pos + 1) (by omega), get_eq (s := s) (pos := pos + 1 + 1) (by omega), u8_eq (s.get! pos) _ (by omega), u8_eq (s.get! (pos + 1)) _ (by omega), u8_eq (s.get! (pos + 2)) _ (by omega)]
   rfl
  rw [if_neg d1] at hb
  simp at hb
 rw [if_neg c2] at hb ⊢
 by_cases c3 : (s.get! pos).toNat / 8 = 30 ∧ (1 < s.size - pos ∧ (s.get! (pos + 1)).toNat / 64 = 2) ∧ (2 < s.size - pos ∧ (s.get! (pos + 2)).toNat / 64 = 2) ∧ (3 < s.size - pos ∧ (s.get! (pos + 3)).toNat / 64 = 2)
 ·rw [if_pos c3] at hb ⊢
  by_cases d1 : (s.get! pos).toNat % 8 * 262144 + (s.get! (pos + 1)).toNat % 64 * 4096 + (s.get! (pos + 2)).toNat % 64 * 64 + (s.get! (pos + 3)).toNat % 64 ≥ 65536 ∧ ((s.get! pos).toNat % 8 * 262144 + (s.get! (pos + 1)).toNat % 64 * 4096 + (s.get! (pos + 2)).toNat % 64 * 64 + (s.get! (pos + 3)).toNat % 64 < 55296 ∨ (57344 ≤ (s.get! pos).toNat % 8 * 262144 + (s.get! (pos + 1)).toNat % 64 * 4096 + (s.get! (pos + 2)).toNat % 64 * 64 + (s.get! (pos + 3)).toNat % 64 ∧ (s.get! pos).toNat % 8 * 262144 + (s.get! (pos + 1)).toNat % 64 * 4096 + (s.get! (pos + 2)).toNat % 64 * 64 + (s.get! (pos + 3)).toNat % 64 ≤ 1114111))
  ·rw [if_pos d1]
   simp only []
   obtain ⟨v, hv⟩ : ∃ v, (s.get! pos).toNat % 8 * 262144 + (s.get! (pos + 1)).toNat % 64 * 4096 + (s.get! (pos + 2)).toNat % 64 * 64 + (s.get! (pos + 3)).toNat % 64 = v := ⟨_, rfl⟩
   rw [hv] at d1 ⊢
   rw [er_four (by omega) (by omega), get_eq (s := s) (pos := pos + 1) (by omega), get_eq (s := s) (pos := pos + 1 + 1) (by omega), get_eq (s := s) (pos := pos + 1 + 1 + 1) (by omega), u8_eq (s.get! pos) _ (by omega), u8_eq (s.get! (pos + 1)) _ (by omega), u8_eq (s.get! (pos + 2)) _ (by omega), u8_eq (s.get! (pos + 3)) _ (by omega)]
   rfl
  rw [if_neg d1] at hb
  simp at hb
 rw [if_neg c3] at hb
 simp at hb
theorem enc_valid (s : ByteArray) : ∀ (f pos : Nat), validFrom s f pos = true → s.size ≤ pos + f → enc (rawFrom s f pos) = (bs s).drop pos
 | 0, pos, _, hp => by
  rw [List.drop_of_length_le (by rw [bs_length]; omega)]
  rfl
 | f + 1, pos, hv, hp => by
  rw [validFrom] at hv
  rw [rawFrom]
  by_cases h : pos < s.size
  ·rw [if_pos h] at hv ⊢
   have hw := width_pos s pos h
   unfold width at hw
   cases hb : badAt s pos with
   | true => rw [hb, if_pos rfl] at hv; cases hv
   | false =>
    rw [hb, if_neg (by decide)] at hv
    rw [enc_cons, enc_valid s f _ hv (by omega), ← dec_take s pos h hb]
  rw [if_neg h, List.drop_of_length_le (by rw [bs_length]; omega)]
  rfl
theorem raw_valid {s : ByteArray} (h : valid s = true) : enc (rawFrom s s.size 0) = bs s := by
 rw [enc_valid s s.size 0 h (by omega)]
 rfl
/-! Layer 19: plain and short; valid stays valid. -/
/-! What is encoded is plain, and its words are short. -/
/-! Valid stays valid. -/
def V (l : Bytes) : Prop := ∃ rs, (∀ r ∈ rs, okR r) ∧ l = enc rs
theorem V_nil : V [] := ⟨[], by simp, rfl⟩
theorem V_app {a b : Bytes} (ha : V a) (hb : V b) : V (a ++ b) := by
 obtain ⟨x, hx, rfl⟩ := ha
 obtain ⟨y, hy, rfl⟩ := hb
 exact ⟨x ++ y, fun r hr => (List.mem_append.1 hr).elim (hx r) (hy r), (enc_app x y).symm⟩
theorem V_of_valid {s : ByteArray} (h : valid s = true) : V (bs s) := ⟨rawFrom s s.size 0, raw_ok s _ _, (raw_valid h).symm⟩
theorem upQ_some : ∀ {l a r : Bytes}, upQ l = some (a, r) → l = a ++ 63 :: r
 | [], a, r, h => by cases h
 | c :: l, a, r, h => by
  rw [upQ] at h
  by_cases hc : c = 63
  ·rw [if_pos hc] at h
   injection h with h
   injection h with h1 h2
   rw [← h1, ← h2, hc]
   rfl
  rw [if_neg hc] at h
  cases hu : upQ l with
  | none => rw [hu] at h; cases h
  | some x =>
   rw [hu] at h
   injection h with h
   injection h with h1 h2
   have := upQ_some (l := l) (a := x.1) (r := x.2) hu
   rw [← h1, ← h2, this]
   rfl
theorem V_ascii : ∀ l : Bytes, asciiL l = true → V l
 | [], _ => V_nil
 | c :: l, h => by
  have h' := h
  unfold asciiL at h
  rw [List.all_cons, Bool.and_eq_true, decide_eq_true_eq] at h
  have e : er c.toNat = [c] := by rw [er_low _ (by omega)]; simp
  exact V_app (a := [c]) ⟨[c.toNat], by simp [okR]; omega, by simp [enc, e]⟩ (V_ascii l h.2)
theorem V_iso : ∀ l : Bytes, V (l.flatMap fun c => er c.toNat)
 | [] => V_nil
 | c :: l => by
  rw [List.flatMap_cons]
  have := c.toNat_lt
  exact V_app ⟨[c.toNat], by simp [okR]; omega, by simp [enc]⟩ (V_iso l)
theorem V_signs {cs s x : Bytes} (h : signsL cs s = some x) : V x := by
 unfold signsL at h
 split at h
 ·split at h
  ·next h1 => injection h with h; rw [← h]; exact V_ascii s h1
  cases h
 split at h
 ·split at h
  ·next h1 =>
   injection h with h
   have := V_of_valid h1
   rw [bs_str] at this
   rw [← h]
   exact this
  cases h
 split at h
 ·injection h with h
  rw [← h]
  exact V_iso s
 cases h
theorem obind_some {α β : Type} {o : Option α} {f : α → Option β} {b : β} (h : o.bind f = some b) : ∃ a, o = some a ∧ f a = some b := by
 cases o with
 | none => cases h
 | some a => exact ⟨a, rfl, h⟩
theorem wordL_some {s x : Bytes} {n : Nat} (h : wordL s = some (x, n)) : V x ∧ (∃ r, s = 61 :: r) ∧ 7 ≤ n ∧ n ≤ 75 ∧ n ≤ s.length ∧ ∃ p, p.length + 1 = n ∧ s = p ++ 61 :: s.drop n := by
 unfold wordL at h
 by_cases h0 : s.take 2 = [61, 63]
 ·rw [if_pos h0] at h
  obtain ⟨⟨a, r1⟩, ha, h⟩ := obind_some h
  obtain ⟨⟨k, r2⟩, hk, h⟩ := obind_some h
  obtain ⟨⟨t, r3⟩, ht, h⟩ := obind_some h
  by_cases h1 : (a ≠ [] ∧ solidL a = true ∧ solidL t = true ∧ r3.take 1 = [61]) ∧ ewN a k t ≤ 75
  ·rw [if_pos h1] at h
   obtain ⟨b, hb, h⟩ := obind_some h
   obtain ⟨y, hy, h⟩ := obind_some h
   injection h with h
   injection h with e1 e2
   have q1 := upQ_some ha
   have q2 := upQ_some hk
   have q3 := upQ_some ht
   simp only [] at q1 q2 q3
   obtain ⟨z, rfl⟩ : ∃ z, r3 = 61 :: z := by
    cases r3 with
    | nil => simp at h1
    | cons c z => have := h1.1.2.2.2; simp at this; exact ⟨z, by rw [this]⟩
   have es : s = (61 :: 63 :: (a ++ 63 :: (k ++ 63 :: (t ++ [63])))) ++ 61 :: z := by
    have : s = s.take 2 ++ s.drop 2 := (List.take_append_drop 2 s).symm
    rw [h0, q1, q2, q3] at this
    rw [this]
    simp
   have hn : n = (61 :: 63 :: (a ++ 63 :: (k ++ 63 :: (t ++ [63])))).length + 1 := by
    rw [← e2]
    unfold ewN
    simp only [List.length_cons, List.length_append, List.length_nil]
    omega
   have hd : s.drop n = z := by
    rw [hn, ← List.drop_drop, es, List.drop_left]
    rfl
   have ha1 : 1 ≤ a.length := by
    cases a with
    | nil => exact absurd rfl h1.1.1
    | cons _ _ => simp
   refine ⟨by rw [← e1]; exact V_signs hy, ⟨_, es⟩, ?_, ?_, ?_, _, hn.symm, ?_⟩
   ·rw [← e2]; unfold ewN; simp only []; omega
   ·rw [← e2]; exact h1.2
   ·have hl := congrArg List.length es
    rw [List.length_append, ← Nat.sub_eq_of_eq_add hn, List.length_cons] at hl
    omega
   rw [hd]; exact es
  rw [if_neg h1] at h; cases h
 rw [if_neg h0] at h; cases h
theorem trimB_len (l : Bytes) : (trimB l).length ≤ l.length := (List.dropWhile_suffix _).length_le
end Go.Proofs.YtcndmhpeolbepaaGreatDoor.Pl
namespace Go.Proofs.YtcndmhpeolbepaaGreatDoor.Pl
open Go.Proofs.YtcndmhpeolbepaaGreatDoor.Fn
/-! Layers 17, 18, 19: the program's small functions compute the plain ones. -/
def digZ (c : UInt8) : Int := match hexD c with | none => -1 | some n => (n : Int)
theorem qpdigit_two (c : UInt8) : qp_digit.f 2 (c.toNat : Int) = some (digZ c) := forall_byte (p := fun c => qp_digit.f 2 (c.toNat : Int) = some (digZ c)) (by decide +kernel) c
theorem qpdigit_is (c : UInt8) (k : Nat) (hk : 2 ≤ k) : qp_digit.f k (c.toNat : Int) = some (digZ c) := mono_up (fun k => qp_digit.mono _ k) (qpdigit_two c) k hk
theorem hexD_lt {c : UInt8} {n : Nat} (h : hexD c = some n) : n < 16 := by
 unfold hexD at h
 split at h
 ·injection h with h; omega
 split at h
 ·injection h with h; omega
 split at h
 ·injection h with h; omega
 cases h
def resH : Option UInt8 → Int × Bool
 | none => (0, false)
 | some x => ((x.toNat : Int), true)
theorem wrap_small {x : Int} (h0 : 0 ≤ x) (h1 : x ≤ 1000000000000) : wrap64 x = x := wrap_id (by omega) (by omega)
theorem qpByte_two (a b : UInt8) (k : Nat) (hk : 3 ≤ k) : qp_Byte.f k (str [a, b]) = some (resH (hexB a b)) := by
 obtain ⟨k, rfl⟩ : ∃ j, k = j + 1 := ⟨k - 1, by omega⟩
 have b0 : bt (str [a, b]) 0 = (a.toNat : Int) := bt_str [a, b] 0 (by simp)
 have b1 : bt (str [a, b]) 1 = (b.toNat : Int) := bt_str [a, b] 1 (by simp)
 have hz : ((str [a, b]).size : Int) = 2 := by rw [str_size]; rfl
 have hj : ∀ t, qp_Byte.j0 (k + 1) (str [a, b]) t = if t = true then some (0, false) else some ((Go.bits .or .i64 (wrap64 (digZ a * 16)) (digZ b)) % 256, true) := by
  intro t
  rw [qp_Byte.j0]
  cases t with
  | true => rfl
  | false =>
   simp only [Bool.false_eq_true, if_false]
   rw [hz, if_pos (by decide), b0, qpdigit_is a k (by omega), Option.bind_some, if_pos (by decide), b1, qpdigit_is b k (by omega)]
   rfl
 unfold qp_Byte.f
 rw [hz, if_pos rfl, if_pos (by decide), b0, qpdigit_is a _ (by omega), Option.bind_some, hj]
 cases ha : hexD a with
 | none =>
  have e : digZ a = -1 := by unfold digZ; rw [ha]
  rw [e, if_pos (by decide), if_pos rfl]
  unfold hexB
  rw [ha]
  rfl
 | some x =>
  have hx := hexD_lt ha
  have e : digZ a = (x : Int) := by unfold digZ; rw [ha]
  rw [e, if_neg (by omega), if_pos (by decide), b1, qpdigit_is b _ (by omega), Option.bind_some, hj, e]
  cases hb : hexD b with
  | none =>
   have e2 : digZ b = -1 := by unfold digZ; rw [hb]
   rw [e2, if_pos (by decide)]
   unfold hexB
   rw [ha, hb]
   rfl
  | some y =>
   have hy := hexD_lt hb
   have e2 : digZ b = (y : Int) := by unfold digZ; rw [hb]
   rw [e2, decide_eq_false (by omega), if_neg (by decide), wrap_small (by omega) (by omega), or_i64 4 _ _ (by omega) (by omega) (by omega) (by omega) (by omega) (by omega)]
   unfold hexB
   rw [ha, hb]
   have e3 : (UInt8.ofNat (16 * x + y)).toNat = 16 * x + y := by simp; omega
   simp only [Option.bind_some, resH, e3]
   congr 2
   omega
theorem qpByte_short (s : ByteArray) (h : s.size ≠ 2) (k : Nat) (hk : 1 ≤ k) : qp_Byte.f k s = some (0, false) := by
 obtain ⟨k, rfl⟩ : ∃ j, k = j + 1 := ⟨k - 1, by omega⟩
 unfold qp_Byte.f
 rw [if_neg (by omega), qp_Byte.j0, if_pos rfl]
def numsB (l : Bytes) : List Int := l.map fun c => (c.toNat : Int)
theorem nums_str (l : Bytes) : strOfNums (numsB l) = str l := by
 apply bs_inj
 rw [bs_str]
 simp [bs, strOfNums, numsB, Function.comp_def]
theorem numsB_len (l : Bytes) : (numsB l).length = l.length := by simp [numsB]
theorem numsB_snoc (l : Bytes) (c : UInt8) : numsB l ++ [(c.toNat : Int)] = numsB (l ++ [c]) := by simp [numsB]
def resQ : Option Bytes → ByteArray × Bool
 | none => (⟨#[]⟩, false)
 | some l => (str l, true)
theorem byte_is (c : UInt8) (n : Nat) (h : n < 256) : ((c.toNat : Int) = (n : Int)) = (c = UInt8.ofNat n) := by
 apply propext
 constructor
 ·intro e
  have e' : c.toNat = n := by omega
  rw [← e']
  simp
 intro e
 rw [e]
 simp
 omega
theorem quoted_l0 (s : ByteArray) (hs : s.size ≤ 1000000000) : ∀ (f : Nat) (rest : Bytes) (i k : Nat) (acc : Bytes), (bs s).drop i = rest → i ≤ s.size → rest.length ≤ f → f + 4 ≤ k → acc.length ≤ i →
  ew_quoted.l0 k s (numsB acc) (i : Int) = some (resQ ((quotedF f rest).map (acc ++ ·)))
 | f, [], i, k, acc, hd, hi, hf, hk, ha => by
  obtain ⟨k, rfl⟩ : ∃ j, k = j + 1 := ⟨k - 1, by omega⟩
  have := drop_nil hd
  rw [bs_length] at this
  rw [ew_quoted.l0, if_neg (by omega), nums_str]
  cases f <;> simp [quotedF, resQ]
 | 0, c :: r, i, k, acc, hd, hi, hf, hk, ha => absurd hf (by simp)
 | f + 1, c :: r, i, k, acc, hd, hi, hf, hk, ha => by
  obtain ⟨k, rfl⟩ : ∃ j, k = j + 1 := ⟨k - 1, by omega⟩
  obtain ⟨h1, h2, h3, h4⟩ := drop_cons hd
  rw [bs_length] at h1
  have hlr : r.length + (i + 1) = s.size := by
   have := congrArg List.length h3
   rw [List.length_drop, bs_length] at this
   omega
  have hfr : r.length ≤ f := by simpa using hf
  rw [ew_quoted.l0, if_pos (by omega), if_pos (by omega), bt_drop hd, quotedF]
  by_cases c1 : c = 95
  ·rw [if_pos (by rw [c1]; rfl), if_pos c1, if_pos (by rw [numsB_len]; omega), wrap_succ i (by omega)]
   have := quoted_l0 s hs f r (i + 1) k (acc ++ [32]) h3 (by omega) hfr (by omega) (by rw [List.length_append, List.length_singleton]; omega)
   rw [← numsB_snoc] at this
   rw [show ((32 : UInt8).toNat : Int) = 32 from rfl] at this
   rw [this, Option.map_map]
   congr 2
   cases quotedF f r <;> simp
  rw [if_neg (by rw [show (95 : Int) = ((95 : Nat) : Int) from rfl, byte_is c 95 (by decide)]; exact c1), if_neg c1]
  by_cases c2 : c = 61
  ·rw [if_pos (by rw [c2]; rfl), if_pos c2, wrap_small (x := (i : Int) + 1) (by omega) (by omega), wrap_small (x := (i : Int) + 3) (by omega) (by omega), if_pos (by omega)]
   by_cases hl : 2 ≤ r.length
   ·obtain ⟨a, b, r', rfl⟩ : ∃ a b r', r = a :: b :: r' := by
     match r, hl with
     | a :: b :: r', _ => exact ⟨a, b, r', rfl⟩
    rw [if_pos hl]
    have hmn : mn ((i : Int) + 3) (s.size : Int) = (i : Int) + 3 := by unfold mn; rw [if_neg (by simp at hlr; omega)]
    have hx : s.extract (i + 1) (i + 3) = str [a, b] := by
     apply bs_inj
     rw [bs_extract, bs_str, List.drop_take, h3, show i + 3 - (i + 1) = 2 by omega]
     rfl
    rw [hmn, if_pos (by omega), if_pos (by simp at hlr; omega), show ((i : Int) + 1).toNat = i + 1 by omega, show ((i : Int) + 3).toNat = i + 3 by omega, hx, qpByte_two a b k (by omega), Option.bind_some]
    simp only [List.getD_cons_zero, List.getD_cons_succ, List.drop_succ_cons, List.drop_zero]
    cases hb : hexB a b with
    | none => rfl
    | some x =>
     simp only [resH, Option.bind_some]
     rw [if_pos trivial, if_pos (by rw [numsB_len]; omega), wrap_small (x := (i : Int) + 2) (by omega) (by omega), wrap_small (x := (i : Int) + 2 + 1) (by omega) (by omega), numsB_snoc]
     have h5 : (bs s).drop (i + 3) = r' := by rw [show i + 3 = (i + 1) + 2 by omega, ← List.drop_drop, h3]; rfl
     have := quoted_l0 s hs f r' (i + 3) k (acc ++ [x]) h5 (by simp at hlr; omega) (by simp at hfr; omega) (by omega) (by rw [List.length_append, List.length_singleton]; omega)
     rw [show (i : Int) + 2 + 1 = ((i + 3 : Nat) : Int) by omega, this, Option.map_map]
     congr 2
     cases quotedF f r' <;> simp
   rw [if_neg hl]
   have hmn : mn ((i : Int) + 3) (s.size : Int) = (s.size : Int) := by unfold mn; rw [if_pos (by omega)]
   rw [hmn, if_pos (by omega), if_pos (by omega), qpByte_short _ (by
    intro e
    have e2 := congrArg List.length (bs_extract s ((i : Int) + 1).toNat ((s.size : Int)).toNat)
    rw [bs_length, e, List.length_drop, List.length_take, bs_length] at e2
    omega) k (by omega), Option.bind_some, if_neg (by decide)]
   rfl
  rw [if_neg (by rw [show (61 : Int) = ((61 : Nat) : Int) from rfl, byte_is c 61 (by decide)]; exact c2), if_neg c2, if_pos (by rw [numsB_len]; omega), wrap_succ i (by omega), numsB_snoc]
  rw [quoted_l0 s hs f r (i + 1) k (acc ++ [c]) h3 (by omega) hfr (by omega) (by rw [List.length_append, List.length_singleton]; omega), Option.map_map]
  congr 2
  cases quotedF f r <;> simp
theorem quoted_is (s : ByteArray) (hs : s.size ≤ 1000000000) (k : Nat) (hk : s.size + 4 ≤ k) : ew_quoted.f k s = some (resQ (quotedL (bs s))) := by
 have := quoted_l0 s hs s.size (bs s) 0 k [] rfl (by omega) (by rw [bs_length]; exact Nat.le_refl _) hk (by simp)
 unfold ew_quoted.f quotedL
 rw [bs_length]
 have e : (quotedF s.size (bs s)).map (([] : Bytes) ++ ·) = quotedF s.size (bs s) := by cases quotedF s.size (bs s) <;> simp
 rw [e] at this
 exact this
theorem solid_l0 (s : ByteArray) (hs : s.size ≤ 1000000000) : ∀ (rest : Bytes) (i k : Nat), (bs s).drop i = rest → rest.length + 1 ≤ k → ew_solid.l0 k s (s.size : Int) (i : Int) = some (solidL rest)
 | [], i, k, hd, hk => by
  obtain ⟨k, rfl⟩ : ∃ j, k = j + 1 := ⟨k - 1, by omega⟩
  have := drop_nil hd
  rw [bs_length] at this
  rw [ew_solid.l0, if_neg (by omega)]
  rfl
 | c :: r, i, k, hd, hk => by
  obtain ⟨k, rfl⟩ : ∃ j, k = j + 1 := ⟨k - 1, by omega⟩
  obtain ⟨h1, h2, h3, h4⟩ := drop_cons hd
  rw [bs_length] at h1
  rw [ew_solid.l0, if_pos (by omega), if_pos (by omega), if_pos (by omega), bt_drop hd]
  show _ = some ((decide (33 ≤ c.toNat) && decide (c.toNat ≤ 126)) && solidL r)
  by_cases c1 : (c.toNat : Int) ≤ 32
  ·rw [if_pos c1, decide_eq_false (by omega)]
   rfl
  rw [if_neg c1, decide_eq_true (by omega)]
  by_cases c2 : (c.toNat : Int) > 126
  ·rw [if_pos c2, decide_eq_false (by omega)]
   rfl
  rw [if_neg c2, decide_eq_true (by omega), wrap_succ i (by omega), solid_l0 s hs r (i + 1) k h3 (by simp at hk; omega)]
  rfl
theorem solid_is (s : ByteArray) (hs : s.size ≤ 1000000000) (k : Nat) (hk : s.size + 1 ≤ k) : ew_solid.f k s = some (solidL (bs s)) :=
 solid_l0 s hs (bs s) 0 k rfl (by rw [bs_length]; exact hk)
theorem white_is (c : UInt8) : b64_white.f (c.toNat : Int) = some (whiteC c) := forall_byte (p := fun c => b64_white.f (c.toNat : Int) = some (whiteC c)) (by decide +kernel) c
theorem bare_l0 (s : ByteArray) (hs : s.size ≤ 1000000000) : ∀ (rest : Bytes) (i k : Nat) (acc : Bytes), (bs s).drop i = rest → rest.length + 1 ≤ k → acc.length ≤ i → b64_bare.l0 k s (numsB acc) (s.size : Int) (i : Int) = some (str (acc ++ bareL rest))
 | [], i, k, acc, hd, hk, ha => by
  obtain ⟨k, rfl⟩ : ∃ j, k = j + 1 := ⟨k - 1, by omega⟩
  have := drop_nil hd
  rw [bs_length] at this
  rw [b64_bare.l0, if_neg (by omega), nums_str]
  simp [bareL]
 | c :: r, i, k, acc, hd, hk, ha => by
  obtain ⟨k, rfl⟩ : ∃ j, k = j + 1 := ⟨k - 1, by omega⟩
  obtain ⟨h1, h2, h3, h4⟩ := drop_cons hd
  rw [bs_length] at h1
  rw [b64_bare.l0, if_pos (by omega), if_pos (by omega), if_pos (by omega), bt_drop hd, white_is, Option.bind_some]
  cases hw : whiteC c with
  | true =>
   rw [if_pos rfl, wrap_succ i (by omega), bare_l0 s hs r (i + 1) k acc h3 (by simp at hk; omega) (by omega)]
   simp [bareL, hw]
  | false =>
   rw [if_neg (by decide), if_pos (by rw [numsB_len]; omega), wrap_succ i (by omega), numsB_snoc, bare_l0 s hs r (i + 1) k (acc ++ [c]) h3 (by simp at hk; omega) (by rw [List.length_append, List.length_singleton]; omega)]
   simp [bareL, hw]
theorem bare_is (s : ByteArray) (hs : s.size ≤ 1000000000) (k : Nat) (hk : s.size + 1 ≤ k) : b64_bare.f k s = some (str (bareL (bs s))) :=
 bare_l0 s hs (bs s) 0 k [] rfl (by rw [bs_length]; exact hk) (by simp)
/-! Layers 18, 19: the program's Decode of letters, and its words. -/
def b64Z (c : UInt8) : Int := match b64V c with | none => -1 | some n => (n : Int)
theorem index_is (c : UInt8) : strings_IndexByte.f (⟨#[65, 66, 67, 68, 69, 70, 71, 72, 73, 74, 75, 76, 77, 78, 79, 80, 81, 82, 83, 84, 85, 86, 87, 88, 89, 90, 97, 98, 99, 100, 101, 102, 103, 104, 105, 106, 107, 108, 109, 110, 111, 112, 113, 114, 115, 116, 117, 118, 119, 120, 121, 122, 48, 49, 50, 51, 52, 53, 54, 55, 56, 57, 43, 47]⟩ : ByteArray) (c.toNat : Int) = some (b64Z c) :=
 forall_byte (p := fun c => strings_IndexByte.f (⟨#[65, 66, 67, 68, 69, 70, 71, 72, 73, 74, 75, 76, 77, 78, 79, 80, 81, 82, 83, 84, 85, 86, 87, 88, 89, 90, 97, 98, 99, 100, 101, 102, 103, 104, 105, 106, 107, 108, 109, 110, 111, 112, 113, 114, 115, 116, 117, 118, 119, 120, 121, 122, 48, 49, 50, 51, 52, 53, 54, 55, 56, 57, 43, 47]⟩ : ByteArray) (c.toNat : Int) = some (b64Z c)) (by decide +kernel) c
theorem b64V_lt {c : UInt8} {n : Nat} (h : b64V c = some n) : n < 64 := by
 have := forall_byte (p := fun c => ∀ n, b64V c = some n → n < 64) (by decide +kernel) c
 exact this n h
def resC (B : Bytes) : Option Bytes → ByteArray × Int
 | none => (⟨#[]⟩, 3)
 | some b => if b64P b = B then (str b, 0) else (⟨#[]⟩, 3)
theorem b64_step (h m v : Nat) (hm : m ≤ 6) (hh : v < 2 ^ (m + 8)) : shr .i64 (v : Int) (m : Int) % 256 = ((UInt8.ofNat (v / 2 ^ m)).toNat : Int) ∧ Go.bits .and .i64 (v : Int) (wrap64 ((shl .i64 1 (m : Int)) - 1)) = ((v % 2 ^ m : Nat) : Int) := by
 have hp : 2 ^ m ≤ 64 := Nat.pow_le_pow_right (n := 2) (by decide) hm
 have h8 : 2 ^ (m + 8) = 2 ^ m * 256 := by rw [Nat.pow_add]
 have h0 : 0 < 2 ^ m := Nat.two_pow_pos m
 have hpz : ((2 : Int) ^ m) = ((2 ^ m : Nat) : Int) := by simp
 have hb : min ((m : Int)).toNat IntKind.i64.bits = m := by
  rw [Int.toNat_natCast]
  exact Nat.min_eq_left (Nat.le_trans hm (by decide))
 have hv : v / 2 ^ m < 256 := Nat.div_lt_of_lt_mul (by rw [← h8]; exact hh)
 refine ⟨?_, ?_⟩
 ·unfold shr
  rw [hb, hpz]
  have e : (UInt8.ofNat (v / 2 ^ m)).toNat = v / 2 ^ m := by simp; omega
  rw [e]
  omega
 have e : wrap64 ((shl .i64 1 (m : Int)) - 1) = 2 ^ m - 1 := by
  unfold shl
  rw [hb, hpz, Int.one_mul, i64_small _ (by omega) (by omega), wrap_small (by omega) (by omega)]
 have hv2 : v < 16384 := by omega
 rw [e, and_i64 m _ (by omega) (by omega) (by omega)]
 simp
theorem b64_l0 (B : ByteArray) (hs : B.size ≤ 1000000000) (m : Nat) (hm : m ≤ B.size) : ∀ (rest : Bytes) (i k h n : Nat) (acc : Bytes), ((bs B).take m).drop i = rest → rest.length + 1 ≤ k → acc.length ≤ i → i ≤ m → (n = 0 ∨ n = 2 ∨ n = 4 ∨ n = 6) → h < 2 ^ n →
  b64_Decode.l0 k B (numsB acc) (h : Int) (n : Int) (m : Int) (i : Int) = some (resC (bs B) (b64D rest h n acc))
 | [], i, k, h, n, acc, hd, hk, ha, him, hn, hh => by
  obtain ⟨k, rfl⟩ : ∃ j, k = j + 1 := ⟨k - 1, by omega⟩
  have := drop_nil hd
  rw [List.length_take, bs_length] at this
  have hp : b64_Plain.f (str acc) = some (str (b64P acc)) := by
   unfold b64_Plain.f
   rw [if_pos (by rw [str_size]; omega), bs_str]
  rw [b64_Decode.l0, if_neg (by omega), nums_str, hp, Option.bind_some, toList_str, toList_bs, b64D]
  unfold resC
  simp only []
  split <;> rfl
 | c :: r, i, k, h, n, acc, hd, hk, ha, him, hn, hh => by
  obtain ⟨k, rfl⟩ : ∃ j, k = j + 1 := ⟨k - 1, by omega⟩
  obtain ⟨h1, h2, h3, h4⟩ := drop_cons hd
  rw [List.length_take, bs_length] at h1
  have hb : (bs B).drop i = c :: (bs B).drop (i + 1) := by
   have hi2 : i < (bs B).length := by rw [bs_length]; omega
   rw [List.drop_eq_getElem_cons hi2]
   congr 1
   rw [List.getElem?_take, if_pos (by omega), List.getElem?_eq_getElem hi2] at h2
   exact Option.some.inj h2
  rw [b64_Decode.l0, if_pos (by omega), if_pos (by omega), if_pos (by omega), bt_drop hb, index_is, Option.bind_some, b64D]
  cases hv : b64V c with
  | none =>
   have e : b64Z c = -1 := by unfold b64Z; rw [hv]
   rw [e, if_pos (by decide)]
   rfl
  | some q =>
   have hq := b64V_lt hv
   have e : b64Z c = (q : Int) := by unfold b64Z; rw [hv]
   have hh6 : h < 64 := Nat.lt_of_lt_of_le hh (by
    have := Nat.pow_le_pow_right (n := 2) (by decide) (show n ≤ 6 by omega)
    exact this)
   have hq0 : ¬ (q : Int) < 0 := by omega
   have hn6 : wrap64 ((n : Int) + 6) = (n : Int) + 6 := wrap_small (by omega) (by omega)
   have hor : Go.bits .or .i64 (wrap64 ((h : Int) * 64)) (q : Int) = ((h * 64 + q : Nat) : Int) := by
    rw [wrap_small (by omega) (by omega), or_i64 6 _ _ (by omega) (by omega) (by omega) (by omega) (by omega) (by omega)]
    omega
   rw [e, if_neg hq0, hor, hn6, Option.bind_some]
   clear hor hn6
   rcases hn with hn | hn
   ·subst hn
    obtain rfl : h = 0 := by simpa using hh
    rw [if_neg (by omega), if_neg (by omega), wrap_succ i (by omega)]
    have := b64_l0 B hs m hm r (i + 1) k (0 * 64 + q) 6 acc h3 (by simp at hk; omega) (by omega) (by omega) (by omega) (by omega)
    simpa using this
   have hn2 : 2 ≤ n ∧ n ≤ 6 := by omega
   have hlt : h * 64 + q < 2 ^ (n - 2 + 8) := by
    have e1 : 2 ^ (n - 2 + 8) = 2 ^ n * 64 := by rw [show n - 2 + 8 = n + 6 by omega, Nat.pow_add]
    rw [e1]
    omega
   have q1 : (n : Int) + 6 ≥ 8 := by omega
   have q2 : 8 ≤ n + 6 := by omega
   have q3 : (0 : Int) ≤ ((n - 2 : Nat) : Int) := by omega
   have q4 : (numsB acc).length < 140737488355328 := by rw [numsB_len]; omega
   have hs1 := (b64_step h (n - 2) (h * 64 + q) (by omega) hlt).1
   have hs2 := (b64_step h (n - 2) (h * 64 + q) (by omega) hlt).2
   have hw : wrap64 ((n : Int) + 6 - 8) = ((n - 2 : Nat) : Int) := by rw [wrap_small (by omega) (by omega)]; omega
   rw [if_pos q1, if_pos q2, hw, if_pos q3, if_pos q4, hs1, hs2, wrap_succ i (by omega), numsB_snoc]
   exact b64_l0 B hs m hm r (i + 1) k _ (n - 2) _ h3 (by simp at hk; omega) (by rw [List.length_append, List.length_singleton]; omega) (by omega) (by omega) (Nat.mod_lt _ (Nat.two_pow_pos _))
def resD : Option Bytes → ByteArray × Int
 | none => (⟨#[]⟩, 3)
 | some b => (str b, 0)
theorem trimR_prefix (l cs : Bytes) : Lib.trimRightS l cs = l.take (Lib.trimRightS l cs).length := by
 apply List.prefix_iff_eq_take.1
 unfold Lib.trimRightS
 have := List.reverse_prefix.2 (List.dropWhile_suffix (l := l.reverse) (cs.contains ·))
 rwa [List.reverse_reverse] at this
theorem b64Decode_is (s : ByteArray) (hs : s.size ≤ 1000000000) (k : Nat) (hk : s.size + 2 ≤ k) : b64_Decode.f k s = some (resD (b64L (bs s))) := by
 have hl : (bareL (bs s)).length ≤ s.size := by
  rw [← bs_length s]
  exact List.length_filter_le _ _
 have hz : (str (bareL (bs s))).size ≤ s.size := by rw [str_size]; exact hl
 have ht : strings_TrimRight.f (str (bareL (bs s))) ⟨#[61]⟩ = some (str (Lib.trimRightS (bareL (bs s)) [61])) := by
  unfold strings_TrimRight.f
  rw [if_pos (by omega), if_pos (by decide), if_pos (by decide)]
  show some (str (Lib.trimRightS (bs (str (bareL (bs s)))) [61])) = _
  rw [bs_str]
 have hle : (Lib.trimRightS (bareL (bs s)) [61]).length ≤ (bareL (bs s)).length := by
  rw [trimR_prefix, List.length_take]
  omega
 unfold b64_Decode.f
 rw [bare_is s hs k (by omega), Option.bind_some, ht, Option.bind_some, str_size]
 have := b64_l0 (str (bareL (bs s))) (by omega) (Lib.trimRightS (bareL (bs s)) [61]).length (by rw [str_size]; exact hle) (Lib.trimRightS (bareL (bs s)) [61]) 0 k 0 0 [] (by rw [bs_str, List.drop_zero, ← trimR_prefix]) (by omega) (by simp) (by omega) (by omega) (by decide)
 rw [show ([] : List Int) = numsB [] from rfl]
 refine this.trans ?_
 unfold b64L
 rw [bs_str]
 cases b64D (Lib.trimRightS (bareL (bs s)) [61]) 0 0 [] with
 | none => rfl
 | some b =>
  simp only [resC, Option.bind_some]
  split <;> rfl
theorem octets_is (a0 a1 : ByteArray) (hs : a1.size ≤ 1000000000) (k : Nat) (hk : a1.size + 5 ≤ k) : ew_octets.f k a0 a1 = some (resQ (octL (bs a0) (bs a1))) := by
 obtain ⟨k, rfl⟩ : ∃ j, k = j + 1 := ⟨k - 1, by omega⟩
 have hq := quoted_is a1 hs k (by omega)
 have hd := b64Decode_is a1 hs k (by omega)
 have hr : ∀ o : Option Bytes, ((resD o).1, (resD o).2 == 0) = resQ o := by
  intro o
  cases o <;> rfl
 unfold ew_octets.f octL
 rw [toList_bs]
 have hj : ∀ t, ew_octets.j0 (k + 1) a1 a0 t = if t = true then some (resQ (quotedL (bs a1))) else if bs a0 = [98] then some (resQ (b64L (bs a1))) else if bs a0 = [66] then some (resQ (b64L (bs a1))) else some (⟨#[]⟩, false) := by
  intro t
  rw [ew_octets.j0, hq, hd, toList_bs]
  simp only [Option.bind_some, hr]
 by_cases h1 : bs a0 = [113]
 ·rw [if_pos h1, if_pos (.inl h1), hj, beq_iff_eq.2 h1, if_pos rfl]
 rw [if_neg h1, hj]
 by_cases h2 : bs a0 = [81]
 ·rw [beq_iff_eq.2 h2, if_pos rfl, if_pos (.inr h2)]
 have h12 : ¬ (bs a0 = [113] ∨ bs a0 = [81]) := fun h => h.elim h1 h2
 rw [beq_eq_false_iff_ne.2 h2]
 simp only [Bool.false_eq_true, if_false]
 rw [if_neg h12]
 by_cases h3 : bs a0 = [98]
 ·rw [if_pos h3, if_pos (.inl h3)]
 rw [if_neg h3]
 by_cases h4 : bs a0 = [66]
 ·rw [if_pos h4, if_pos (.inr h4)]
 have h34 : ¬ (bs a0 = [98] ∨ bs a0 = [66]) := fun h => h.elim h3 h4
 rw [if_neg h4, if_neg h34]
 rfl
/-! Cut at the question marks. -/
theorem upQ_index : ∀ l : Bytes, (upQ l = none ∧ Lib.indexByte l 63 = -1) ∨ (∃ i : Nat, Lib.indexByte l 63 = i ∧ i < l.length ∧ upQ l = some (l.take i, l.drop (i + 1)))
 | [] => .inl ⟨rfl, rfl⟩
 | c :: l => by
  by_cases hc : c = 63
  ·exact .inr ⟨0, by rw [Lib.indexByte, if_pos (beq_iff_eq.2 hc)]; rfl, by simp, by rw [upQ, if_pos hc]; rfl⟩
  have hc' : ¬ (c == 63) = true := fun h => hc (beq_iff_eq.1 h)
  rcases upQ_index l with ⟨h1, h2⟩ | ⟨i, h1, h2, h3⟩
  ·exact .inl ⟨by rw [upQ, if_neg hc, h1]; rfl, by rw [Lib.indexByte, if_neg hc', if_pos (by rw [h2]; rfl), ]⟩
  refine .inr ⟨i + 1, ?_, by simp; omega, by rw [upQ, if_neg hc, h3]; rfl⟩
  rw [Lib.indexByte, if_neg hc', if_neg (by rw [h1, beq_iff_eq]; omega), h1]
  omega
def spL : Nat → Bytes → List Bytes
 | 0, l => [l]
 | n + 1, l => match upQ l with | none => [l] | some x => x.1 :: spL n x.2
theorem split_is : ∀ (n : Nat) (s : ByteArray), Lib.splitB ⟨#[63]⟩ 0 n s = (spL n (bs s)).map str
 | 0, s => by rw [Lib.splitB_zero, spL, List.map_singleton, str_bs]
 | n + 1, s => by
  have e : Lib.indexB s ⟨#[63]⟩ = Lib.indexByte (bs s) 63 := Lib.index_one (bs s) 63
  rcases upQ_index (bs s) with ⟨h1, h2⟩ | ⟨i, h1, h2, h3⟩
  ·rw [Lib.splitB_miss _ _ _ _ (e.trans h2), spL, h1, List.map_singleton, str_bs]
  rw [Lib.splitB_hit _ _ _ _ i (e.trans h1), spL, h3, split_is n]
  simp only [List.map_cons]
  congr 1
  ·apply bs_inj
   rw [bs_extract, bs_str, List.drop_zero, Nat.add_zero]
  rw [bs_extract, List.take_of_length_le (by rw [bs_length]; exact Nat.le_refl _)]
  rfl
theorem spL_len : ∀ (n : Nat) (l : Bytes), (spL n l).length ≤ n + 1
 | 0, l => Nat.le_refl _
 | n + 1, l => by
  rw [spL]
  cases upQ l with
  | none => simp
  | some x =>
   have := spL_len n x.2
   simp only [List.length_cons]
   omega
def resW : Option (Bytes × Nat) → ByteArray × Int
 | none => (⟨#[]⟩, 0)
 | some x => (str x.1, (x.2 : Int))
theorem sp_four (l : Bytes) : ((spL 3 l).length < 4 ∧ (upQ l).bind (fun a => (upQ a.2).bind fun k => upQ k.2) = none) ∨ (∃ a k t, upQ l = some a ∧ upQ a.2 = some k ∧ upQ k.2 = some t ∧ spL 3 l = [a.1, k.1, t.1, t.2]) := by
 cases h1 : upQ l with
 | none => exact .inl ⟨by simp [spL, h1], rfl⟩
 | some a =>
  cases h2 : upQ a.2 with
  | none => exact .inl ⟨by simp [spL, h1, h2], by simp [h2]⟩
  | some k =>
   cases h3 : upQ k.2 with
   | none => exact .inl ⟨by simp [spL, h1, h2, h3], by simp [h2, h3]⟩
   | some t => exact .inr ⟨a, k, t, rfl, h2, h3, by simp [spL, h1, h2, h3]⟩
theorem sp_few (n : Nat) (hn : n ≤ 2) (l : Bytes) (hl : l.length ≤ n) : (spL n l).length < 4 ∧ (upQ l).bind (fun a => (upQ a.2).bind fun k => upQ k.2) = none := by
 refine ⟨by have := spL_len n l; omega, ?_⟩
 cases h1 : upQ l with
 | none => rfl
 | some a =>
  have e1 := congrArg List.length (upQ_some h1)
  simp only [List.length_append, List.length_cons] at e1
  simp only [Option.bind_some]
  cases h2 : upQ a.2 with
  | none => rfl
  | some k =>
   have e2 := congrArg List.length (upQ_some h2)
   simp only [List.length_append, List.length_cons] at e2
   simp only [Option.bind_some]
   cases h3 : upQ k.2 with
   | none => rfl
   | some t =>
    have e3 := congrArg List.length (upQ_some h3)
    simp only [List.length_append, List.length_cons] at e3
    omega
/-! Layer 19: the program's word. -/
theorem prefix2_is (s : ByteArray) (c d : UInt8) : stringslite_HasPrefix.f s ⟨#[c, d]⟩ = some ((bs s).take 2 == [c, d]) := by
 unfold stringslite_HasPrefix.f
 have hz : ((⟨#[c, d]⟩ : ByteArray).size : Int) = 2 := rfl
 rw [hz]
 by_cases h : (s.size : Int) ≥ 2
 ·rw [if_pos h, if_pos (by decide), if_pos (by omega), toList_bs, bs_extract, List.drop_zero, toList_bs]
  rfl
 rw [if_neg h]
 congr 1
 rw [eq_comm, beq_eq_false_iff_ne]
 intro e
 have := congrArg List.length e
 rw [List.length_take, bs_length] at this
 simp at this
 omega
theorem prefix1_is (s : ByteArray) (c : UInt8) : strings_HasPrefix.f s ⟨#[c]⟩ = some ((bs s).take 1 == [c]) := by
 unfold strings_HasPrefix.f stringslite_HasPrefix.f
 have hz : ((⟨#[c]⟩ : ByteArray).size : Int) = 1 := rfl
 rw [hz]
 by_cases h : (s.size : Int) ≥ 1
 ·rw [if_pos h, if_pos (by decide), if_pos (by omega), toList_bs, bs_extract, List.drop_zero, toList_bs]
  rfl
 rw [if_neg h, Option.bind_some]
 congr 1
 rw [eq_comm, beq_eq_false_iff_ne]
 intro e
 have := congrArg List.length e
 rw [List.length_take, bs_length] at this
 simp at this
 omega
theorem cutprefix_is (s : ByteArray) : strings_CutPrefix.f s ⟨#[61, 63]⟩ = some (if (bs s).take 2 = [61, 63] then (str ((bs s).drop 2), true) else (s, false)) := by
 unfold strings_CutPrefix.f stringslite_CutPrefix.f
 rw [prefix2_is, Option.bind_some]
 by_cases h : (bs s).take 2 = [61, 63]
 ·have hl : 2 ≤ s.size := by
   have := congrArg List.length h
   rw [List.length_take, bs_length] at this
   simp at this
   omega
  have hz : ((⟨#[61, 63]⟩ : ByteArray).size : Int) = 2 := rfl
  rw [if_pos (beq_iff_eq.2 h), hz, if_pos (by decide), if_pos (by omega), if_pos h, Option.bind_some]
  congr 2
  apply bs_inj
  rw [bs_extract, bs_str, List.take_of_length_le (by rw [bs_length]; exact Nat.le_refl _)]
  rfl
 rw [if_neg (by rw [beq_iff_eq]; exact h), if_neg h, Option.bind_some]
theorem signsR_some {a b : ByteArray} {x : Bytes} (h : signsL (bs a) (bs b) = some x) : signsR a b = (str x, true) := by
 unfold signsL at h
 unfold signsR
 split at h
 ·next h1 =>
  rw [if_pos h1]
  split at h
  ·next h2 =>
   injection h with h
   rw [if_pos h2, ← h, str_bs]
  cases h
 next h1 =>
 rw [if_neg h1]
 split at h
 ·next h3 =>
  rw [if_pos h3]
  split at h
  ·next h4 =>
   injection h with h
   rw [str_bs] at h4
   rw [h4, ← h, str_bs]
  cases h
 next h3 =>
 rw [if_neg h3]
 split at h
 ·next h5 =>
  injection h with h
  rw [if_pos h5, ← h]
 cases h
theorem signsR_none {a b : ByteArray} (h : signsL (bs a) (bs b) = none) : (signsR a b).2 = false := by
 unfold signsL at h
 unfold signsR
 split at h
 ·next h1 =>
  rw [if_pos h1]
  split at h
  ·cases h
  next h2 => rw [if_neg h2]
 next h1 =>
 rw [if_neg h1]
 split at h
 ·next h3 =>
  rw [if_pos h3]
  split at h
  ·cases h
  next h4 =>
  rw [str_bs] at h4
  simpa using h4
 next h3 =>
 rw [if_neg h3]
 split at h
 ·cases h
 next h5 => rw [if_neg h5]
theorem word_j1 (k : Nat) (a b : ByteArray) (P : List ByteArray) (n : Int) (t : Bool) (hP : P[0]? = some a) (ha : a.size ≤ 1000000000) (hb : b.size ≤ 1000000000) :
  ew_word.j1 (k + 1) P n b t = some (if t = true then (⟨#[]⟩, 0) else match signsL (bs a) (bs b) with | none => (⟨#[]⟩, 0) | some x => (str x, n)) := by
 rw [ew_word.j1]
 cases t with
 | true => rfl
 | false =>
  have hr : rdOf ByteArray.empty P 0 = a := by
   unfold rdOf
   simp [hP]
  have hl : 0 < (P.length : Int) := by
   rcases P with _ | ⟨p, P⟩
   ·cases hP
   simp
  have hs : ew_signs.f a b = some (signsR a b) := by unfold ew_signs.f; rw [if_pos ⟨ha, hb⟩]
  simp only [Bool.false_eq_true, if_false]
  rw [if_pos hl, hr, hs, Option.bind_some]
  cases hx : signsL (bs a) (bs b) with
  | none => rw [signsR_none hx]; rfl
  | some x => rw [signsR_some hx]; rfl
theorem quotedF_len : ∀ (f : Nat) (l x : Bytes), quotedF f l = some x → x.length ≤ l.length
 | 0, l, x, h => by injection h with h; rw [← h]; simp
 | _ + 1, [], x, h => by injection h with h; rw [← h]; simp
 | f + 1, c :: r, x, h => by
  rw [quotedF] at h
  split at h
  ·obtain ⟨y, hy, e⟩ := Option.map_eq_some_iff.1 h
   have := quotedF_len f r y hy
   rw [← e]; simp; omega
  split at h
  ·split at h
   ·obtain ⟨z, hz, h⟩ := obind_some h
    obtain ⟨y, hy, e⟩ := Option.map_eq_some_iff.1 h
    have := quotedF_len f _ y hy
    rw [List.length_drop] at this
    rw [← e]; simp; omega
   cases h
  obtain ⟨y, hy, e⟩ := Option.map_eq_some_iff.1 h
  have := quotedF_len f r y hy
  rw [← e]; simp; omega
theorem b64D_len : ∀ (l : Bytes) (h n : Nat) (acc x : Bytes), b64D l h n acc = some x → x.length ≤ acc.length + l.length
 | [], h, n, acc, x, e => by injection e with e; rw [← e]; simp
 | c :: r, h, n, acc, x, e => by
  rw [b64D] at e
  obtain ⟨k, _, e⟩ := obind_some e
  split at e
  ·have := b64D_len r _ _ _ x e
   simp at this ⊢
   omega
  have := b64D_len r _ _ _ x e
  simp at this ⊢
  omega
theorem octL_len {k l x : Bytes} (h : octL k l = some x) : x.length ≤ l.length := by
 unfold octL at h
 split at h
 ·exact quotedF_len _ _ _ h
 split at h
 ·obtain ⟨y, hy, h⟩ := obind_some h
  have h1 := b64D_len _ _ _ _ _ hy
  have h2 : (Lib.trimRightS (bareL l) [61]).length ≤ (bareL l).length := by
   rw [trimR_prefix, List.length_take]
   omega
  have h3 : (bareL l).length ≤ l.length := List.length_filter_le _ _
  split at h
  ·injection h with h
   rw [← h]
   simp at h1
   omega
  cases h
 cases h
theorem word_j0 (k : Nat) (a q t z : Bytes) (b : Bool) (ha : a.length ≤ 1000000000) (hq : q.length ≤ 1000000000) (ht : t.length ≤ 1000000000) (hk : t.length + 10 ≤ k) :
  ew_word.j0 k [str a, str q, str t, str z] b = some (if b = true then (⟨#[]⟩, 0) else if ewN a q t ≤ 75 then resW ((octL q t).bind fun o => (signsL a o).bind fun x => some (x, ewN a q t)) else (⟨#[]⟩, 0)) := by
 obtain ⟨k, rfl⟩ : ∃ j, k = j + 1 + 1 := ⟨k - 2, by omega⟩
 rw [ew_word.j0]
 cases b with
 | true => rfl
 | false =>
  simp only [Bool.false_eq_true, if_false]
  have r0 : rdOf ByteArray.empty [str a, str q, str t, str z] 0 = str a := rfl
  have r1 : rdOf ByteArray.empty [str a, str q, str t, str z] 1 = str q := rfl
  have r2 : rdOf ByteArray.empty [str a, str q, str t, str z] 2 = str t := rfl
  have ho := octets_is (str q) (str t) (by rw [str_size]; exact ht) (k + 1) (by rw [str_size]; omega)
  rw [bs_str, bs_str] at ho
  have hn : wrap64 (wrap64 (wrap64 (wrap64 (wrap64 (wrap64 (2 + ((str a).size : Int)) + 1) + ((str q).size : Int)) + 1) + ((str t).size : Int)) + 2) = (ewN a q t : Int) := by
   rw [str_size, str_size, str_size]
   unfold ewN
   rw [wrap_small (x := 2 + (a.length : Int)) (by omega) (by omega), wrap_small (x := 2 + (a.length : Int) + 1) (by omega) (by omega), wrap_small (x := 2 + (a.length : Int) + 1 + (q.length : Int)) (by omega) (by omega), wrap_small (x := 2 + (a.length : Int) + 1 + (q.length : Int) + 1) (by omega) (by omega), wrap_small (x := 2 + (a.length : Int) + 1 + (q.length : Int) + 1 + (t.length : Int)) (by omega) (by omega), wrap_small (x := 2 + (a.length : Int) + 1 + (q.length : Int) + 1 + (t.length : Int) + 2) (by omega) (by omega)]
   omega
  rw [if_pos (by simp), if_pos (by simp), if_pos (by simp), r0, r1, r2, ho, Option.bind_some, hn]
  have hbz : (resQ (octL q t)).1.size ≤ 1000000000 := by
   cases hx : octL q t with
   | none => exact Nat.zero_le _
   | some x =>
    have := octL_len hx
    show (str x).size ≤ _
    rw [str_size]
    omega
  rw [word_j1 k (str a) _ _ _ _ rfl (by rw [str_size]; exact ha) hbz, word_j1 k (str a) _ _ _ _ rfl (by rw [str_size]; exact ha) hbz, bs_str]
  by_cases h75 : ewN a q t ≤ 75
  ·rw [if_neg (by omega), if_pos h75]
   cases hx : octL q t with
   | none => rfl
   | some o =>
    simp only [resQ, Bool.not_true, Bool.false_eq_true, if_false, bs_str, Option.bind_some]
    cases signsL a o <;> rfl
  rw [if_pos (by omega), if_neg h75]
  rfl
theorem word_is (s : ByteArray) (hs : s.size ≤ 1000000000) (k : Nat) (hk : s.size + 10 ≤ k) : ew_word.f k s = some (resW (wordL (bs s))) := by
 unfold ew_word.f wordL
 rw [cutprefix_is, Option.bind_some]
 by_cases h0 : (bs s).take 2 = [61, 63]
 ·rw [if_pos h0, if_pos h0]
  simp only [if_true]
  obtain ⟨l, hl⟩ : ∃ l, (bs s).drop 2 = l := ⟨_, rfl⟩
  have hlen : l.length + 2 ≤ s.size := by
   have h1 := congrArg List.length h0
   rw [List.length_take, bs_length] at h1
   rw [← hl, List.length_drop, bs_length]
   simp at h1
   omega
  rw [hl]
  have hsp : strings_SplitN.f (str l) ⟨#[63]⟩ 4 = some ((spL (min 4 (l.length + 1) - 1) l).map str) := by
   unfold strings_SplitN.f
   rw [str_size, if_pos (by omega), if_pos (by decide), if_pos (by decide), split_is, bs_str]
   rfl
  rw [hsp, Option.bind_some]
  have hno : ∀ P : List ByteArray, P.length < 4 → (upQ l).bind (fun a => (upQ a.2).bind fun k => upQ k.2) = none →
    (if (P.length : Int) < 4 then ew_word.j0 k P true else none) = some (resW ((upQ l).bind fun a => (upQ a.2).bind fun k => (upQ k.2).bind fun t =>
   if (a.1 ≠ [] ∧ solidL a.1 = true ∧ solidL t.1 = true ∧ t.2.take 1 = [61]) ∧ ewN a.1 k.1 t.1 ≤ 75 then
    (octL k.1 t.1).bind fun b => (signsL a.1 b).bind fun x => some (x, ewN a.1 k.1 t.1) else none)) := by
   intro P hP hn
   obtain ⟨k, rfl⟩ : ∃ j, k = j + 1 := ⟨k - 1, by omega⟩
   rw [if_pos (by omega), ew_word.j0, if_pos rfl]
   cases h1 : upQ l with
   | none => rfl
   | some a =>
    cases h2 : upQ a.2 with
    | none => simp [h2, resW]
    | some q =>
     cases h3 : upQ q.2 with
     | none => simp [h2, h3, resW]
     | some t => rw [h1] at hn; simp [h2, h3] at hn
  by_cases hsm : l.length ≤ 2
  ·rw [show min 4 (l.length + 1) - 1 = l.length by omega]
   obtain ⟨h1, h2⟩ := sp_few l.length hsm l (Nat.le_refl _)
   have h3 := hno ((spL l.length l).map str) (by rw [List.length_map]; exact h1) h2
   rw [if_pos (by rw [List.length_map]; omega)] at h3 ⊢
   exact h3
  rw [show min 4 (l.length + 1) - 1 = 3 by omega]
  rcases sp_four l with ⟨h1, h2⟩ | ⟨a, q, t, h1, h2, h3, h4⟩
  ·have h3 := hno ((spL 3 l).map str) (by rw [List.length_map]; exact h1) h2
   rw [if_pos (by rw [List.length_map]; omega)] at h3 ⊢
   exact h3
  have e1 := congrArg List.length (upQ_some h1)
  have e2 := congrArg List.length (upQ_some h2)
  have e3 := congrArg List.length (upQ_some h3)
  simp only [List.length_append, List.length_cons] at e1 e2 e3
  have hj := fun b => word_j0 k a.1 q.1 t.1 t.2 b (by omega) (by omega) (by omega) (by omega)
  have r0 : rdOf ByteArray.empty [str a.1, str q.1, str t.1, str t.2] 0 = str a.1 := rfl
  have r2 : rdOf ByteArray.empty [str a.1, str q.1, str t.1, str t.2] 2 = str t.1 := rfl
  have r3 : rdOf ByteArray.empty [str a.1, str q.1, str t.1, str t.2] 3 = str t.2 := rfl
  rw [h4, h1]
  simp only [List.map_cons, List.map_nil, Option.bind_some, h2, h3]
  rw [if_neg (by simp), if_pos (by simp), r0, toList_str]
  by_cases c1 : a.1 = []
  ·rw [if_pos c1, hj, if_pos rfl, if_neg (fun h => h.1.1 c1)]
   rfl
  have s1 := solid_is (str a.1) (by rw [str_size]; omega) k (by rw [str_size]; omega)
  have s2 := solid_is (str t.1) (by rw [str_size]; omega) k (by rw [str_size]; omega)
  rw [bs_str] at s1 s2
  rw [if_neg c1, s1, Option.bind_some]
  cases c2 : solidL a.1 with
  | false => simp [hj, resW]
  | true =>
   rw [if_pos rfl, if_pos (by simp), r2, s2, Option.bind_some]
   cases c3 : solidL t.1 with
   | false => simp [hj, resW]
   | true =>
    rw [if_pos rfl, if_pos (by simp), r3, prefix1_is, Option.bind_some, bs_str, hj]
    by_cases c4 : t.2.take 1 = [61]
    ·rw [beq_iff_eq.2 c4]
     simp only [Bool.not_true, Bool.false_eq_true, if_false]
     by_cases c5 : ewN a.1 q.1 t.1 ≤ 75
     ·rw [if_pos c5, if_pos ⟨⟨c1, trivial, trivial, c4⟩, c5⟩]
     rw [if_neg c5, if_neg (fun h => c5 h.2)]
     rfl
    have c4' : ¬ ((a.1 ≠ [] ∧ true = true ∧ true = true ∧ t.2.take 1 = [61]) ∧ ewN a.1 q.1 t.1 ≤ 75) := fun h => c4 h.1.2.2.2
    rw [beq_eq_false_iff_ne.2 c4, if_neg c4']
    rfl
 rw [if_neg h0, if_neg h0]
 rfl
end Go.Proofs.YtcndmhpeolbepaaGreatDoor.Pl
set_option linter.unusedVariables false
set_option linter.unusedSimpArgs false
namespace Go.Proofs.YtcndmhpeolbepaaGreatDoor.Pl
open Go.RowKit Go.Proofs.YtcndmhpeolbepaaGreatDoorW.PrintWords
theorem signsL_len {cs s x : Bytes} (h : signsL cs s = some x) : x.length ≤ 4 * s.length := by
 unfold signsL at h
 split at h
 ·split at h
  ·injection h with h; rw [← h]; omega
  cases h
 split at h
 ·split at h
  ·injection h with h; rw [← h]; omega
  cases h
 split at h
 ·injection h with h
  rw [← h]
  clear h
  induction s with
  | nil => simp
  | cons c s ih =>
   rw [List.flatMap_cons, List.length_append, List.length_cons]
   have := (Lib.encodeRuneZ_length (c.toNat : Int)).2
   have h4 : (er c.toNat).length ≤ 4 := by unfold er Lib.encodeRune; simpa using this
   omega
 cases h
theorem wordL_len {s x : Bytes} {n : Nat} (h : wordL s = some (x, n)) : x.length ≤ 300 := by
 unfold wordL at h
 split at h
 ·obtain ⟨a, _, h⟩ := obind_some h
  obtain ⟨k, _, h⟩ := obind_some h
  obtain ⟨t, _, h⟩ := obind_some h
  split at h
  ·next h1 =>
   obtain ⟨b, hb, h⟩ := obind_some h
   obtain ⟨y, hy, h⟩ := obind_some h
   injection h with h
   injection h with e1 e2
   have h2 := octL_len hb
   have h3 := signsL_len hy
   have h4 := h1.2
   unfold ewN at h4
   rw [← e1]
   omega
  cases h
 cases h
end Go.Proofs.YtcndmhpeolbepaaGreatDoor.Pl
namespace Go.Proofs.YtcndmhpeolbepaaGreatDoor.Fn
open Go.RowKit Go.Proofs.YtcndmhpeolbepaaGreatDoorW.PrintWords

def ew_Decode.f (a0 : ByteArray) : Option ByteArray := if a0.size ≤ 1000000000 then some (Pl.str (Pl.decodeL (Pl.bs a0))) else none
set_option maxHeartbeats 4000000 in
set_option maxRecDepth 100000 in
theorem ew_Decode.calls (a0 r : ByteArray) (w : World) (hG : Glob w) (h : ew_Decode.f a0 = some r) :
  Calls Tryz.prog 57 #[.string a0] w fun e w' => e = .returned (.string r) ∧ Below w.heap.size w w' := by
 unfold ew_Decode.f at h
 by_cases hs : a0.size ≤ 1000000000
 ·rw [if_pos hs] at h
  have HR := hid (Option.some.inj h)
  have HG := hid hG
  clear h hG
  go_enter Tryz.func57, Tryz.ntmps57
  go_wp2
  go_loopw [0] (fun v0 wr => ∃ (s : ByteArray) (fuel : Nat) (acc : List UInt8), v0 = .string s ∧ isBd w.heap.size w.heap.size (Lib.byteCells acc) wr ∧ Below w.heap.size w wr ∧ Hid (Pl.str (Pl.decL fuel (Pl.bs s) acc) = r) ∧ s.size ≤ fuel ∧ acc.length + 300 * s.size ≤ 300 * a0.size) (fun v0 wr => strLen v0)
  case atStart => exact ⟨a0, a0.size, [], rfl, Lib.IsBuilderF.of (Lib.fresh_isBuilder _ _ w), (Below.refl _ w).alloc (Nat.le_refl _) _, (by have := HR.out; unfold Pl.decodeL at this; rw [Pl.bs_length] at this; exact this), Nat.le_refl _, by simp⟩
  case round =>
   obtain ⟨s, fuel, acc, rfl, hI, hbw, hacc, hfu, hal⟩ := hrel
   have hbs := hbw.size
   have hblt := bd_lt hI
   have hzs := Pl.bs_length s
   by_cases he : s.toList = []
   ·obtain ⟨e0, e1⟩ := toList_ne he
    have hend : Hid (Pl.str acc = r) := by
     show _ = _
     rw [← hacc.out, show Pl.bs s = [] from by rw [← Pl.toList_bs]; exact he]
     cases fuel <;> rfl
    go_wp2_with (go_at_call 49; refine (Tryz.Builder_String_any_k w.heap.size w.heap.size acc _ hI hbs).mono ?_; rintro e W1 ⟨rfl, _, b1, _⟩)
    go_ret
    refine ⟨?_, hbw.trans b1⟩
    rw [← hend.out]
    rfl
   obtain ⟨e0, e1⟩ := toList_ne' he
   obtain ⟨c, l, hcl⟩ : ∃ c l, Pl.bs s = c :: l := by
    cases hx : Pl.bs s with
    | nil => rw [Pl.toList_bs] at he; exact absurd hx he
    | cons c l => exact ⟨c, l, rfl⟩
   have hlen : l.length + 1 = s.size := by rw [← hzs, hcl]; rfl
   obtain ⟨f, rfl⟩ : ∃ f, fuel = f + 1 := ⟨fuel - 1, by omega⟩
   have hwd := Pl.word_is s (by omega) (s.size + 10) (Nat.le_refl _)
   have hGr := hid (HG.out.below hbw)
   have hacc' := hacc.out
   rw [hcl, Pl.decL] at hacc'
   cases hw : Pl.wordL (Pl.bs s) with
   | none =>
    rw [hw] at hwd
    rw [hcl] at hw
    rw [hw] at hacc'
    have HW : Hid (ew_word.f (s.size + 10) s = some (⟨#[]⟩, 0)) := hwd
    have hb0 : s.size > 0 := by omega
    have hx0 : ∀ h, ((s[0]'h).toNat : Int) = (c.toNat : Int) := fun h => by
     have : (Pl.bs s)[0]? = some c := by rw [hcl]; rfl
     rw [List.getElem?_eq_getElem (by rw [hzs]; omega)] at this
     rw [← Option.some.inj this]
     rfl
    have q1 : (0 < s.size) = True := eq_true (by omega)
    have q2 : ((0 : Int) < (s.size : Int)) = True := eq_true (by omega)
    have q3 : ((1 : Int) ≤ (s.size : Int)) = True := eq_true (by omega)
    have hx2 : Pl.bs (s.extract 1 s.size) = l := by rw [Pl.bs_extract, List.take_of_length_le (by omega), hcl]; rfl
    have hx4 : (s.extract 1 s.size).size = s.size - 1 := by rw [← Pl.bs_length, hx2]; omega
    have hnew : Hid (Pl.str (Pl.decL f (Pl.bs (s.extract 1 s.size)) (acc ++ [c])) = r) := by
     show _ = _
     rw [hx2, ← hacc']
    clear hwd hw hacc hacc' he hcl hx2
    go_wp2_with (first
     | (go_at_call 95; refine (ew_word.calls _ s _ _ _ hGr.out HW.out).mono ?_; rintro e W2 ⟨rfl, b2⟩; have hI2 := bd_below hI b2)
     | (go_at_call 48; refine (bd_byte w.heap.size w.heap.size (Lib.byteCells acc) _ _ hI2 (by rw [Lib.byteCells_length]; omega) (by have := b2.size; omega)).mono ?_; rintro e W3 ⟨rfl, h3, b3, k3⟩))
    refine ⟨⟨_, f, acc ++ [c], rfl, ?_, hbw.trans ((b2.mono hbs).trans b3), hnew, by omega, ?_⟩, ?_⟩
    ·rw [Lib.byteCells_append]; exact h3.is
    ·rw [List.length_append, List.length_singleton, hx4]; omega
    simp only [strLen, hx4]; omega
   | some y =>
    obtain ⟨x, n⟩ := y
    rw [hw] at hwd
    obtain ⟨_, _, hn1, hn2, hn3, _⟩ := Pl.wordL_some hw
    have hxl := Pl.wordL_len hw
    rw [hcl] at hw
    rw [hw] at hacc'
    simp only [] at hacc'
    rw [hzs] at hn3
    obtain ⟨X, hX⟩ : ∃ X, Pl.str x = X := ⟨_, rfl⟩
    have hXb : Pl.bs X = x := by rw [← hX, Pl.bs_str]
    have hXz : X.size = x.length := by rw [← hX, Pl.str_size]
    have HW : Hid (ew_word.f (s.size + 10) s = some (X, (n : Int))) := by
     show _ = _
     rw [hwd, ← hX]
     rfl
    have hx2 : Pl.bs (s.extract n s.size) = (c :: l).drop n := by rw [Pl.bs_extract, List.take_of_length_le (by omega), hcl]
    have hx4 : (s.extract n s.size).size = s.size - n := by rw [← Pl.bs_length, hx2, List.length_drop, List.length_cons]; omega
    obtain ⟨T, hT⟩ : ∃ T, Pl.str (Pl.trimB ((c :: l).drop n)) = T := ⟨_, rfl⟩
    have hTb : Pl.bs T = Pl.trimB ((c :: l).drop n) := by rw [← hT, Pl.bs_str]
    have hTz : T.size ≤ s.size - n := by
     have := Pl.trimB_len ((c :: l).drop n)
     rw [← hTb, Pl.bs_length, List.length_drop, List.length_cons] at this
     omega
    have HT : Hid (strings_TrimLeft.f (s.extract n s.size) ⟨#[32, 9]⟩ = some T) := by
     show _ = _
     unfold strings_TrimLeft.f
     rw [if_pos (by omega), if_pos (by decide), if_pos (by decide), ← hT]
     show some (Pl.str (Lib.trimLeftS (Pl.bs (s.extract n s.size)) [32, 9])) = _
     rw [hx2]
     rfl
    have hwd2 := Pl.word_is T (by omega) (T.size + 10) (Nat.le_refl _)
    have q0 : ((n : Int) = 0) = False := eq_false (by omega)
    have q0' : ((n : Int) == 0) = false := beq_eq_false_iff_ne.2 (by omega)
    have q2 : ((n : Int) ≤ (s.size : Int)) = True := eq_true (by omega)
    have q3 : ((0 : Int) ≤ (n : Int)) = True := eq_true (by omega)
    rw [← hTb] at hacc'
    cases hw2 : Pl.wordL (Pl.bs T) with
    | none =>
     rw [hw2] at hwd2 hacc'
     have HW2 : Hid (ew_word.f (T.size + 10) T = some (⟨#[]⟩, 0)) := hwd2
     have hnew : Hid (Pl.str (Pl.decL f (Pl.bs (s.extract n s.size)) (acc ++ x)) = r) := by
      show _ = _
      rw [hx2, ← hacc']
      rfl
     clear hwd hw hacc hacc' he hcl hx2 hX hT hTb hwd2 hw2
     go_wp2_with (first
      | (go_at_call 95; refine (ew_word.calls _ T _ _ _ hG4.out HW2.out).mono ?_; rintro e W5 ⟨rfl, b5⟩)
      | (go_at_call 95; refine (ew_word.calls _ s _ _ _ hGr.out HW.out).mono ?_; rintro e W2 ⟨rfl, b2⟩; have hI2 := bd_below hI b2)
      | (go_at_call 97; refine (strings_TrimLeft.calls (s.extract n s.size) ⟨#[32, 9]⟩ T _ HT.out).mono ?_; rintro e W4 ⟨rfl, b4⟩; have hG4 := hid (HG.out.below (hbw.trans ((b2.mono hbs).trans (b3.trans (b4.mono (by have := b2.size; have := b3.size; omega)))))))
      | (go_at_call 96; refine (bd_string w.heap.size w.heap.size (Lib.byteCells acc) X _ hI2 (by rw [Lib.byteCells_length]; omega) (by have := b2.size; omega)).mono ?_; rintro e W3 ⟨rfl, h3, b3, k3⟩; have hI3 : isBd w.heap.size w.heap.size (Lib.byteCells (acc ++ x)) W3 := (by rw [Lib.byteCells_append, ← hXb]; exact h3.is)))
     go_roundw
     case rel =>
      refine ⟨_, f, acc ++ x, rfl, bd_below (bd_below hI3 b4) b5, hbw.trans ((b2.mono hbs).trans (b3.trans ((b4.mono (by have := b2.size; have := b3.size; omega)).trans (b5.mono (by have := b2.size; have := b3.size; have := b4.size; omega))))), hnew, by omega, ?_⟩
      rw [List.length_append]; omega
     case measure => simp only [strLen]; omega
    | some z =>
     obtain ⟨x2, n2⟩ := z
     obtain ⟨_, _, hn4, _, _, _⟩ := Pl.wordL_some hw2
     have q4 : ((0 : Int) < (n2 : Int)) = True := eq_true (by omega)
     have q5 : (0 < n2) = True := eq_true (by omega)
     rw [hw2] at hwd2 hacc'
     have HW2 : Hid (ew_word.f (T.size + 10) T = some (Pl.str x2, (n2 : Int))) := hwd2
     have hnew : Hid (Pl.str (Pl.decL f (Pl.bs T) (acc ++ x)) = r) := by
      show _ = _
      rw [← hacc']
      rfl
     clear hwd hw hacc hacc' he hcl hx2 hX hT hTb hwd2 hw2
     go_wp2_with (first
      | (go_at_call 95; refine (ew_word.calls _ T _ _ _ hG4.out HW2.out).mono ?_; rintro e W5 ⟨rfl, b5⟩)
      | (go_at_call 95; refine (ew_word.calls _ s _ _ _ hGr.out HW.out).mono ?_; rintro e W2 ⟨rfl, b2⟩; have hI2 := bd_below hI b2)
      | (go_at_call 97; refine (strings_TrimLeft.calls (s.extract n s.size) ⟨#[32, 9]⟩ T _ HT.out).mono ?_; rintro e W4 ⟨rfl, b4⟩; have hG4 := hid (HG.out.below (hbw.trans ((b2.mono hbs).trans (b3.trans (b4.mono (by have := b2.size; have := b3.size; omega)))))))
      | (go_at_call 96; refine (bd_string w.heap.size w.heap.size (Lib.byteCells acc) X _ hI2 (by rw [Lib.byteCells_length]; omega) (by have := b2.size; omega)).mono ?_; rintro e W3 ⟨rfl, h3, b3, k3⟩; have hI3 : isBd w.heap.size w.heap.size (Lib.byteCells (acc ++ x)) W3 := (by rw [Lib.byteCells_append, ← hXb]; exact h3.is)))
     go_roundw
     case rel =>
      refine ⟨_, f, acc ++ x, rfl, bd_below (bd_below hI3 b4) b5, hbw.trans ((b2.mono hbs).trans (b3.trans ((b4.mono (by have := b2.size; have := b3.size; omega)).trans (b5.mono (by have := b2.size; have := b3.size; have := b4.size; omega))))), hnew, by omega, ?_⟩
      rw [List.length_append]; omega
     case measure => simp only [strLen]; omega
 rw [if_neg hs] at h; exact absurd h (by simp)
end Go.Proofs.YtcndmhpeolbepaaGreatDoor.Fn
namespace Go.Proofs.YtcndmhpeolbepaaGreatDoor.Fn
attribute [local go_sem] max2_int min2_int max_two min_two max_three min_three max_four min_four
def rights_Subject.f (k : Nat) (l0_0 : List (S54)) (a0_1 : ByteArray) : Option (ByteArray) := (msg_Message_Get.f k l0_0 a0_1 (⟨#[83, 117, 98, 106, 101, 99, 116]⟩ : ByteArray)).bind fun t600 => ((ew_Decode.f t600).bind fun t601 => ((glyph_Clean.f t601).bind fun t602 => (some t602)))
theorem rights_Subject.mono : ∀ a0 a1 k, LeO (rights_Subject.f k a0 a1) (rights_Subject.f (k + 1) a0 a1) := by
 intro a0 a1 k; unfold rights_Subject.f
 repeat' first
   | (with_reducible exact msg_Message_Get.mono _ _ _ _)
   | (with_reducible exact LeO.refl _)
   | (with_reducible exact LeO.none _)
   | (with_reducible refine LeO.ite ?_ ?_)
   | (with_reducible refine LeO.bind ?_ (fun _ => ?_))
   | exact msg_Message_Get.mono _ _ _ _
   | exact LeO.none _
   | refine LeO.ite ?_ ?_
   | refine LeO.bind ?_ (fun _ => ?_)
set_option maxRecDepth 100000 in
theorem rights_Subject.calls (k : Nat) (A0_0 : Option Addr) (c0_0 : Nat) (l0_0 : List (S54)) (a0_1 : ByteArray) (r : ByteArray) (w : World) (hG : Glob w) (hr0_0 : Kd.C k54 w A0_0 l0_0.length l0_0) (hc0_0 : l0_0.length ≤ c0_0) (h : rights_Subject.f k l0_0 a0_1 = some r) :
  Calls Tryz.prog 24 #[.agg #[.slice A0_0 l0_0.length c0_0, .string a0_1]] w fun e w' => e = .returned (.string r) ∧ Below w.heap.size w w' := by
 have hu28 := Tryz.underlying28; have HR0_0 := Aside0.mk hr0_0; have HC0_0 := Aside0.mk hc0_0; clear hr0_0 hc0_0; have HB := Aside0.mk (Below.refl w.heap.size w); have H : ((msg_Message_Get.f k l0_0 a0_1 (⟨#[83, 117, 98, 106, 101, 99, 116]⟩ : ByteArray)).bind fun t600 => ((ew_Decode.f t600).bind fun t601 => ((glyph_Clean.f t601).bind fun t602 => (some t602)))) = some r := h; clear h; replace H := Option.bind_eq_some_iff.mp H; obtain ⟨t600, A20, H⟩ := H; have A2 := Aside0.mk A20; clear A20; replace H := Option.bind_eq_some_iff.mp H; obtain ⟨t601, A30, H⟩ := H; have A3 := Aside0.mk A30; clear A30; replace H := Option.bind_eq_some_iff.mp H; obtain ⟨t602, A40, H⟩ := H; have A4 := Aside0.mk A40; clear A40; obtain rfl := Option.some.inj H
 go_enter Tryz.func24, Tryz.ntmps24
 go_wp2_with (first | ((with_reducible refine gate_dst (N := 1) rfl ?_); refine box_event ?hg (N := 1) ?hd (cs := #[.slice A0_0 l0_0.length c0_0, .string a0_1]) (t := 28) ?hr ?_; (case hd => rfl); (case hg => rfl); (case hr => first | (go_simp; done) | (go_simp; rfl)); intro gb599 hg w5 hbox hb; have n0_ := Aside0.mk (below_step bw hb); have n1_ := Aside0.mk (hbox); have n2_ := Aside0.mk ((by rw [hg]; exact (below_size bw) : w.heap.size ≤ gb599)); have n3_ := Aside0.mk ((by rw [hg]; exact (below_size bw) : w.heap.size ≤ gb599)); clear HB; have HB := n0_; have BK599 := n1_; have GW599 := n2_; have GE599 := n3_; clear n0_ n1_ n2_ n3_; clear hb hbox hg; obtain ⟨hcz6_0, hcz6_1⟩ := ce2 BK599; obtain ⟨hfz6_0, hfz6_1⟩ := fz2 BK599) | ((with_reducible refine gate_callee (f := 41) rfl ?_); refine goesL_ (some 4) rfl rfl Tryz.func41 (by kernel_rfl) rfl #[.agg #[.slice A0_0 l0_0.length c0_0, .string a0_1], .string (⟨#[83, 117, 98, 106, 101, 99, 116]⟩ : ByteArray)] rfl am ?_; (with_reducible refine (msg_Message_Get.calls k _ _ l0_0 a0_1 (⟨#[83, 117, 98, 106, 101, 99, 116]⟩ : ByteArray) t600 _ ?side1 ?side2 A2.out).mono ?_); (case side1 => repeat (first | exact (Kd.C_below HR0_0.out HB.out) | (with_reducible refine Kd.C_alloc ?_ _) | (with_reducible refine Kd.C_drewN ?_ _) | (with_reducible refine Kd.C_drew ?_))); (case side2 => exact HC0_0.out); rintro e w7 ⟨rfl, hb⟩; refine ⟨_, rfl, ?_⟩; have n0_ := Aside0.mk (blk_below (g := gb599) (o := .cells #[.slice A0_0 l0_0.length c0_0, .string a0_1] 28 (0, 0)) bk hb); have n1_ := Aside0.mk (below_step bwS hb); clear BK599; clear HB; have BK599 := n0_; have HB := n1_; clear n0_ n1_; (try clear hb); (try clear hb2); (try clear hk); (try clear hi)) | ((with_reducible refine gate_callee (f := 57) rfl ?_); refine goesL_ (some 5) rfl rfl Tryz.func57 (by kernel_rfl) rfl #[.string t600] rfl am ?_; (with_reducible refine (ew_Decode.calls (hG := by first | exact hG | exact Glob.below hG (by first | exact HB.out | (repeat (first | (with_reducible first | exact HB.out | apply below_alloc | apply pw_below_drewN | apply below_drew1 | refine below_set ?_ GE599.out) | exact HB.out))) | exact Glob.drawn hG (d0)) t600 t601 _ A3.out).mono ?_); rintro e w8 ⟨rfl, hb⟩; refine ⟨_, rfl, ?_⟩; have n0_ := Aside0.mk (blk_below (g := gb599) (o := .cells #[.slice A0_0 l0_0.length c0_0, .string a0_1] 28 (0, 0)) bk hb); have n1_ := Aside0.mk (below_step bwS hb); clear BK599; clear HB; have BK599 := n0_; have HB := n1_; clear n0_ n1_; (try clear hb); (try clear hb2); (try clear hk); (try clear hi)) | ((with_reducible refine gate_callee (f := 56) rfl ?_); refine goesL_ (some 6) rfl rfl Tryz.func56 (by kernel_rfl) rfl #[.string t601] rfl am ?_; (with_reducible refine (glyph_Clean.calls t601 t602 _ A4.out).mono ?_); rintro e w9 ⟨rfl, hb⟩; refine ⟨_, rfl, ?_⟩; have n0_ := Aside0.mk (blk_below (g := gb599) (o := .cells #[.slice A0_0 l0_0.length c0_0, .string a0_1] 28 (0, 0)) bk hb); have n1_ := Aside0.mk (below_step bwS hb); clear BK599; clear HB; have BK599 := n0_; have HB := n1_; clear n0_ n1_; (try clear hb); (try clear hb2); (try clear hk); (try clear hi)))
 go_ret
 exact ⟨ew, bwS⟩
def rights_odd.f (k : Nat) (l0_0 : List (S54)) (a0_1 : ByteArray) : Option (ByteArray) := (rights_Subject.f k l0_0 a0_1).bind fun t604 => ((glyph_Fold.f t604).bind fun t605 => ((glyph_Words.f t605).bind fun t606 => (if (t606.length : Int) = 0 then (some (⟨#[115, 117, 98, 106, 101, 99, 116]⟩ : ByteArray)) else (if 0 < (t606.length : Int) then (if (rdOf ByteArray.empty t606 0).toList = ([115, 117, 98, 115, 99, 114, 105, 98, 101] : List UInt8) then (some (⟨#[99, 111, 109, 109, 97, 110, 100]⟩ : ByteArray)) else (if (rdOf ByteArray.empty t606 0).toList = ([117, 110, 115, 117, 98, 115, 99, 114, 105, 98, 101] : List UInt8) then (some (⟨#[99, 111, 109, 109, 97, 110, 100]⟩ : ByteArray)) else (some (⟨#[]⟩ : ByteArray)))) else (none)))))
set_option maxRecDepth 100000 in
theorem rights_odd.calls (k : Nat) (A0_0 : Option Addr) (c0_0 : Nat) (l0_0 : List (S54)) (a0_1 : ByteArray) (r : ByteArray) (w : World) (hG : Glob w) (hr0_0 : Kd.C k54 w A0_0 l0_0.length l0_0) (hc0_0 : l0_0.length ≤ c0_0) (h : rights_odd.f k l0_0 a0_1 = some r) :
  Calls Tryz.prog 53 #[.agg #[.slice A0_0 l0_0.length c0_0, .string a0_1]] w fun e w' => e = .returned (.string r) ∧ Below w.heap.size w w' := by
 have hu28 := Tryz.underlying28; have HR0_0 := Aside0.mk hr0_0; have HC0_0 := Aside0.mk hc0_0; clear hr0_0 hc0_0; have HB := Aside0.mk (Below.refl w.heap.size w); have H : ((rights_Subject.f k l0_0 a0_1).bind fun t604 => ((glyph_Fold.f t604).bind fun t605 => ((glyph_Words.f t605).bind fun t606 => (if (t606.length : Int) = 0 then (some (⟨#[115, 117, 98, 106, 101, 99, 116]⟩ : ByteArray)) else (if 0 < (t606.length : Int) then (if (rdOf ByteArray.empty t606 0).toList = ([115, 117, 98, 115, 99, 114, 105, 98, 101] : List UInt8) then (some (⟨#[99, 111, 109, 109, 97, 110, 100]⟩ : ByteArray)) else (if (rdOf ByteArray.empty t606 0).toList = ([117, 110, 115, 117, 98, 115, 99, 114, 105, 98, 101] : List UInt8) then (some (⟨#[99, 111, 109, 109, 97, 110, 100]⟩ : ByteArray)) else (some (⟨#[]⟩ : ByteArray)))) else (none)))))) = some r := h; clear h; replace H := Option.bind_eq_some_iff.mp H; obtain ⟨t604, A20, H⟩ := H; have A2 := Aside0.mk A20; clear A20; replace H := Option.bind_eq_some_iff.mp H; obtain ⟨t605, A30, H⟩ := H; have A3 := Aside0.mk A30; clear A30; replace H := Option.bind_eq_some_iff.mp H; obtain ⟨t606, A40, H⟩ := H; have A4 := Aside0.mk A40; clear A40
 by_cases c5 : (t606.length : Int) = 0
 ·rw [if_pos c5] at H; have c5b0 := beq_iff_eq.mpr c5; have c5b1 := bne_eq_false_iff_eq.mpr c5; clear c5; obtain rfl := Option.some.inj H
  go_enter Tryz.func53, Tryz.ntmps53
  go_wp2_with (first | ((with_reducible refine gate_dst (N := 1) rfl ?_); refine box_event ?hg (N := 1) ?hd (cs := #[.slice A0_0 l0_0.length c0_0, .string a0_1]) (t := 28) ?hr ?_; (case hd => rfl); (case hg => rfl); (case hr => first | (go_simp; done) | (go_simp; rfl)); intro gb603 hg w6 hbox hb; have n0_ := Aside0.mk (below_step bw hb); have n1_ := Aside0.mk (hbox); have n2_ := Aside0.mk ((by rw [hg]; exact (below_size bw) : w.heap.size ≤ gb603)); have n3_ := Aside0.mk ((by rw [hg]; exact (below_size bw) : w.heap.size ≤ gb603)); clear HB; have HB := n0_; have BK603 := n1_; have GW603 := n2_; have GE603 := n3_; clear n0_ n1_ n2_ n3_; clear hb hbox hg; obtain ⟨hcz7_0, hcz7_1⟩ := ce2 BK603; obtain ⟨hfz7_0, hfz7_1⟩ := fz2 BK603) | ((with_reducible refine gate_callee (f := 24) rfl ?_); refine goesL_ (some 5) rfl rfl Tryz.func24 (by kernel_rfl) rfl #[.agg #[.slice A0_0 l0_0.length c0_0, .string a0_1]] rfl am ?_; (with_reducible refine (rights_Subject.calls (hG := by first | exact hG | exact Glob.below hG (by first | exact HB.out | (repeat (first | (with_reducible first | exact HB.out | apply below_alloc | apply pw_below_drewN | apply below_drew1 | refine below_set ?_ GE603.out) | exact HB.out))) | exact Glob.drawn hG (d0)) k _ _ l0_0 a0_1 t604 _ ?side1 ?side2 A2.out).mono ?_); (case side1 => repeat (first | exact (Kd.C_below HR0_0.out HB.out) | (with_reducible refine Kd.C_alloc ?_ _) | (with_reducible refine Kd.C_drewN ?_ _) | (with_reducible refine Kd.C_drew ?_))); (case side2 => exact HC0_0.out); rintro e w8 ⟨rfl, hb⟩; refine ⟨_, rfl, ?_⟩; have n0_ := Aside0.mk (blk_below (g := gb603) (o := .cells #[.slice A0_0 l0_0.length c0_0, .string a0_1] 28 (0, 0)) bk hb); have n1_ := Aside0.mk (below_step bwS hb); clear BK603; clear HB; have BK603 := n0_; have HB := n1_; clear n0_ n1_; (try clear hb); (try clear hb2); (try clear hk); (try clear hi)) | ((with_reducible refine gate_callee (f := 18) rfl ?_); refine goesL_ (some 6) rfl rfl Tryz.func18 (by kernel_rfl) rfl #[.string t604] rfl am ?_; (with_reducible refine (glyph_Fold.calls t604 t605 _ A3.out).mono ?_); rintro e w9 ⟨rfl, hb⟩; refine ⟨_, rfl, ?_⟩; have n0_ := Aside0.mk (blk_below (g := gb603) (o := .cells #[.slice A0_0 l0_0.length c0_0, .string a0_1] 28 (0, 0)) bk hb); have n1_ := Aside0.mk (below_step bwS hb); clear BK603; clear HB; have BK603 := n0_; have HB := n1_; clear n0_ n1_; (try clear hb); (try clear hb2); (try clear hk); (try clear hi)) | ((with_reducible refine gate_callee (f := 23) rfl ?_); refine goesL_ (some 7) rfl rfl Tryz.func23 (by kernel_rfl) rfl #[.string t605] rfl am ?_; (with_reducible refine (glyph_Words.calls t605 t606 _ A4.out).mono ?_); rintro e w10 ⟨v607, rfl, ho0, hb⟩; refine ⟨_, rfl, ?_⟩; have n0_ := Aside0.mk (Kd.R_lower ho0 (below_size bwS)); have n1_ := Aside0.mk (blk_below (g := gb603) (o := .cells #[.slice A0_0 l0_0.length c0_0, .string a0_1] 28 (0, 0)) bk hb); have n2_ := Aside0.mk (below_step bwS hb); clear BK603; clear HB; have HO608 := n0_; have BK603 := n1_; have HB := n2_; clear n0_ n1_ n2_; (try clear hb); (try clear hb2); (try clear hk); (try clear hi); (try clear ho0); obtain ⟨Ao11, co11, eo11⟩ := Kd.R_slice HO608.out; subst eo11))
  go_ret
  exact ⟨ew, bwS⟩
 rw [if_neg c5] at H; have c5b0 := beq_eq_false_iff_ne.mpr c5; have c5b1 := bne_iff_ne.mpr c5; have c5b2 : ¬ (t606 = []) := fun h_ => c5 (by rw [h_]; rfl)
 by_cases c12 : 0 < (t606.length : Int)
 ·rw [if_pos c12] at H; have c12b0 := decide_eq_true c12; have c12b1 : decide (0 < t606.length) = true := decide_eq_true (by omega); clear c12
  by_cases c13 : (rdOf ByteArray.empty t606 0).toList = ([115, 117, 98, 115, 99, 114, 105, 98, 101] : List UInt8)
  ·rw [if_pos c13] at H; have c13b0 := beq_iff_eq.mpr c13; have c13b1 := bne_eq_false_iff_eq.mpr c13; clear c13; obtain rfl := Option.some.inj H
   go_enter Tryz.func53, Tryz.ntmps53
   go_wp2_with (first | ((with_reducible refine gate_dst (N := 1) rfl ?_); refine box_event ?hg (N := 1) ?hd (cs := #[.slice A0_0 l0_0.length c0_0, .string a0_1]) (t := 28) ?hr ?_; (case hd => rfl); (case hg => rfl); (case hr => first | (go_simp; done) | (go_simp; rfl)); intro gb603 hg w14 hbox hb; have n0_ := Aside0.mk (below_step bw hb); have n1_ := Aside0.mk (hbox); have n2_ := Aside0.mk ((by rw [hg]; exact (below_size bw) : w.heap.size ≤ gb603)); have n3_ := Aside0.mk ((by rw [hg]; exact (below_size bw) : w.heap.size ≤ gb603)); clear HB; have HB := n0_; have BK603 := n1_; have GW603 := n2_; have GE603 := n3_; clear n0_ n1_ n2_ n3_; clear hb hbox hg; obtain ⟨hcz15_0, hcz15_1⟩ := ce2 BK603; obtain ⟨hfz15_0, hfz15_1⟩ := fz2 BK603) | ((with_reducible refine gate_callee (f := 24) rfl ?_); refine goesL_ (some 5) rfl rfl Tryz.func24 (by kernel_rfl) rfl #[.agg #[.slice A0_0 l0_0.length c0_0, .string a0_1]] rfl am ?_; (with_reducible refine (rights_Subject.calls (hG := by first | exact hG | exact Glob.below hG (by first | exact HB.out | (repeat (first | (with_reducible first | exact HB.out | apply below_alloc | apply pw_below_drewN | apply below_drew1 | refine below_set ?_ GE603.out) | exact HB.out))) | exact Glob.drawn hG (d0)) k _ _ l0_0 a0_1 t604 _ ?side1 ?side2 A2.out).mono ?_); (case side1 => repeat (first | exact (Kd.C_below HR0_0.out HB.out) | (with_reducible refine Kd.C_alloc ?_ _) | (with_reducible refine Kd.C_drewN ?_ _) | (with_reducible refine Kd.C_drew ?_))); (case side2 => exact HC0_0.out); rintro e w16 ⟨rfl, hb⟩; refine ⟨_, rfl, ?_⟩; have n0_ := Aside0.mk (blk_below (g := gb603) (o := .cells #[.slice A0_0 l0_0.length c0_0, .string a0_1] 28 (0, 0)) bk hb); have n1_ := Aside0.mk (below_step bwS hb); clear BK603; clear HB; have BK603 := n0_; have HB := n1_; clear n0_ n1_; (try clear hb); (try clear hb2); (try clear hk); (try clear hi)) | ((with_reducible refine gate_callee (f := 18) rfl ?_); refine goesL_ (some 6) rfl rfl Tryz.func18 (by kernel_rfl) rfl #[.string t604] rfl am ?_; (with_reducible refine (glyph_Fold.calls t604 t605 _ A3.out).mono ?_); rintro e w17 ⟨rfl, hb⟩; refine ⟨_, rfl, ?_⟩; have n0_ := Aside0.mk (blk_below (g := gb603) (o := .cells #[.slice A0_0 l0_0.length c0_0, .string a0_1] 28 (0, 0)) bk hb); have n1_ := Aside0.mk (below_step bwS hb); clear BK603; clear HB; have BK603 := n0_; have HB := n1_; clear n0_ n1_; (try clear hb); (try clear hb2); (try clear hk); (try clear hi)) | ((with_reducible refine gate_callee (f := 23) rfl ?_); refine goesL_ (some 7) rfl rfl Tryz.func23 (by kernel_rfl) rfl #[.string t605] rfl am ?_; (with_reducible refine (glyph_Words.calls t605 t606 _ A4.out).mono ?_); rintro e w18 ⟨v607, rfl, ho0, hb⟩; refine ⟨_, rfl, ?_⟩; have n0_ := Aside0.mk (Kd.R_lower ho0 (below_size bwS)); have n1_ := Aside0.mk (blk_below (g := gb603) (o := .cells #[.slice A0_0 l0_0.length c0_0, .string a0_1] 28 (0, 0)) bk hb); have n2_ := Aside0.mk (below_step bwS hb); clear BK603; clear HB; have HO608 := n0_; have BK603 := n1_; have HB := n2_; clear n0_ n1_ n2_; (try clear hb); (try clear hb2); (try clear hk); (try clear hi); (try clear ho0); obtain ⟨Ao19, co19, eo19⟩ := Kd.R_slice HO608.out; subst eo19; have p609 : 0 ≤ (0 : Int) := (by omega); have q609 : 0 < (t606.length : Int) := od; obtain ⟨ad609, e609, hx609_0⟩ := Kd.at_string (Kd.R_reads' HO608.out).2.2 0 p609 q609; cases e609; have qi609 : (0 < t606.length) = True := eq_true (by omega); (try rw [show ((0 : Int)).toNat = 0 from rfl] at hx609_0); (try rw [Addr.add_zero'] at hx609_0); replace p609 := eq_true p609; replace q609 := eq_true q609))
   go_ret
   exact ⟨ew, bwS⟩
  rw [if_neg c13] at H; have c13b0 := beq_eq_false_iff_ne.mpr c13; have c13b1 := bne_iff_ne.mpr c13
  by_cases c20 : (rdOf ByteArray.empty t606 0).toList = ([117, 110, 115, 117, 98, 115, 99, 114, 105, 98, 101] : List UInt8)
  ·rw [if_pos c20] at H; have c20b0 := beq_iff_eq.mpr c20; have c20b1 := bne_eq_false_iff_eq.mpr c20; clear c20; obtain rfl := Option.some.inj H
   go_enter Tryz.func53, Tryz.ntmps53
   go_wp2_with (first | ((with_reducible refine gate_dst (N := 1) rfl ?_); refine box_event ?hg (N := 1) ?hd (cs := #[.slice A0_0 l0_0.length c0_0, .string a0_1]) (t := 28) ?hr ?_; (case hd => rfl); (case hg => rfl); (case hr => first | (go_simp; done) | (go_simp; rfl)); intro gb603 hg w21 hbox hb; have n0_ := Aside0.mk (below_step bw hb); have n1_ := Aside0.mk (hbox); have n2_ := Aside0.mk ((by rw [hg]; exact (below_size bw) : w.heap.size ≤ gb603)); have n3_ := Aside0.mk ((by rw [hg]; exact (below_size bw) : w.heap.size ≤ gb603)); clear HB; have HB := n0_; have BK603 := n1_; have GW603 := n2_; have GE603 := n3_; clear n0_ n1_ n2_ n3_; clear hb hbox hg; obtain ⟨hcz22_0, hcz22_1⟩ := ce2 BK603; obtain ⟨hfz22_0, hfz22_1⟩ := fz2 BK603) | ((with_reducible refine gate_callee (f := 24) rfl ?_); refine goesL_ (some 5) rfl rfl Tryz.func24 (by kernel_rfl) rfl #[.agg #[.slice A0_0 l0_0.length c0_0, .string a0_1]] rfl am ?_; (with_reducible refine (rights_Subject.calls (hG := by first | exact hG | exact Glob.below hG (by first | exact HB.out | (repeat (first | (with_reducible first | exact HB.out | apply below_alloc | apply pw_below_drewN | apply below_drew1 | refine below_set ?_ GE603.out) | exact HB.out))) | exact Glob.drawn hG (d0)) k _ _ l0_0 a0_1 t604 _ ?side1 ?side2 A2.out).mono ?_); (case side1 => repeat (first | exact (Kd.C_below HR0_0.out HB.out) | (with_reducible refine Kd.C_alloc ?_ _) | (with_reducible refine Kd.C_drewN ?_ _) | (with_reducible refine Kd.C_drew ?_))); (case side2 => exact HC0_0.out); rintro e w23 ⟨rfl, hb⟩; refine ⟨_, rfl, ?_⟩; have n0_ := Aside0.mk (blk_below (g := gb603) (o := .cells #[.slice A0_0 l0_0.length c0_0, .string a0_1] 28 (0, 0)) bk hb); have n1_ := Aside0.mk (below_step bwS hb); clear BK603; clear HB; have BK603 := n0_; have HB := n1_; clear n0_ n1_; (try clear hb); (try clear hb2); (try clear hk); (try clear hi)) | ((with_reducible refine gate_callee (f := 18) rfl ?_); refine goesL_ (some 6) rfl rfl Tryz.func18 (by kernel_rfl) rfl #[.string t604] rfl am ?_; (with_reducible refine (glyph_Fold.calls t604 t605 _ A3.out).mono ?_); rintro e w24 ⟨rfl, hb⟩; refine ⟨_, rfl, ?_⟩; have n0_ := Aside0.mk (blk_below (g := gb603) (o := .cells #[.slice A0_0 l0_0.length c0_0, .string a0_1] 28 (0, 0)) bk hb); have n1_ := Aside0.mk (below_step bwS hb); clear BK603; clear HB; have BK603 := n0_; have HB := n1_; clear n0_ n1_; (try clear hb); (try clear hb2); (try clear hk); (try clear hi)) | ((with_reducible refine gate_callee (f := 23) rfl ?_); refine goesL_ (some 7) rfl rfl Tryz.func23 (by kernel_rfl) rfl #[.string t605] rfl am ?_; (with_reducible refine (glyph_Words.calls t605 t606 _ A4.out).mono ?_); rintro e w25 ⟨v607, rfl, ho0, hb⟩; refine ⟨_, rfl, ?_⟩; have n0_ := Aside0.mk (Kd.R_lower ho0 (below_size bwS)); have n1_ := Aside0.mk (blk_below (g := gb603) (o := .cells #[.slice A0_0 l0_0.length c0_0, .string a0_1] 28 (0, 0)) bk hb); have n2_ := Aside0.mk (below_step bwS hb); clear BK603; clear HB; have HO608 := n0_; have BK603 := n1_; have HB := n2_; clear n0_ n1_ n2_; (try clear hb); (try clear hb2); (try clear hk); (try clear hi); (try clear ho0); obtain ⟨Ao26, co26, eo26⟩ := Kd.R_slice HO608.out; subst eo26; have p609 : 0 ≤ (0 : Int) := (by omega); have q609 : 0 < (t606.length : Int) := od; obtain ⟨ad609, e609, hx609_0⟩ := Kd.at_string (Kd.R_reads' HO608.out).2.2 0 p609 q609; cases e609; have qi609 : (0 < t606.length) = True := eq_true (by omega); (try rw [show ((0 : Int)).toNat = 0 from rfl] at hx609_0); (try rw [Addr.add_zero'] at hx609_0); replace p609 := eq_true p609; replace q609 := eq_true q609; have p610 : 0 ≤ (0 : Int) := (by omega); have q610 : 0 < (t606.length : Int) := od; obtain ⟨ad610, e610, hx610_0⟩ := Kd.at_string (Kd.R_reads' HO608.out).2.2 0 p610 q610; obtain rfl : ad609 = ad610 := (by injection e610); have qi610 : (0 < t606.length) = True := eq_true (by omega); (try rw [show ((0 : Int)).toNat = 0 from rfl] at hx610_0); (try rw [Addr.add_zero'] at hx610_0); replace p610 := eq_true p610; replace q610 := eq_true q610))
   go_ret
   exact ⟨ew, bwS⟩
  rw [if_neg c20] at H; have c20b0 := beq_eq_false_iff_ne.mpr c20; have c20b1 := bne_iff_ne.mpr c20; obtain rfl := Option.some.inj H
  go_enter Tryz.func53, Tryz.ntmps53
  go_wp2_with (first | ((with_reducible refine gate_dst (N := 1) rfl ?_); refine box_event ?hg (N := 1) ?hd (cs := #[.slice A0_0 l0_0.length c0_0, .string a0_1]) (t := 28) ?hr ?_; (case hd => rfl); (case hg => rfl); (case hr => first | (go_simp; done) | (go_simp; rfl)); intro gb603 hg w27 hbox hb; have n0_ := Aside0.mk (below_step bw hb); have n1_ := Aside0.mk (hbox); have n2_ := Aside0.mk ((by rw [hg]; exact (below_size bw) : w.heap.size ≤ gb603)); have n3_ := Aside0.mk ((by rw [hg]; exact (below_size bw) : w.heap.size ≤ gb603)); clear HB; have HB := n0_; have BK603 := n1_; have GW603 := n2_; have GE603 := n3_; clear n0_ n1_ n2_ n3_; clear hb hbox hg; obtain ⟨hcz28_0, hcz28_1⟩ := ce2 BK603; obtain ⟨hfz28_0, hfz28_1⟩ := fz2 BK603) | ((with_reducible refine gate_callee (f := 24) rfl ?_); refine goesL_ (some 5) rfl rfl Tryz.func24 (by kernel_rfl) rfl #[.agg #[.slice A0_0 l0_0.length c0_0, .string a0_1]] rfl am ?_; (with_reducible refine (rights_Subject.calls (hG := by first | exact hG | exact Glob.below hG (by first | exact HB.out | (repeat (first | (with_reducible first | exact HB.out | apply below_alloc | apply pw_below_drewN | apply below_drew1 | refine below_set ?_ GE603.out) | exact HB.out))) | exact Glob.drawn hG (d0)) k _ _ l0_0 a0_1 t604 _ ?side1 ?side2 A2.out).mono ?_); (case side1 => repeat (first | exact (Kd.C_below HR0_0.out HB.out) | (with_reducible refine Kd.C_alloc ?_ _) | (with_reducible refine Kd.C_drewN ?_ _) | (with_reducible refine Kd.C_drew ?_))); (case side2 => exact HC0_0.out); rintro e w29 ⟨rfl, hb⟩; refine ⟨_, rfl, ?_⟩; have n0_ := Aside0.mk (blk_below (g := gb603) (o := .cells #[.slice A0_0 l0_0.length c0_0, .string a0_1] 28 (0, 0)) bk hb); have n1_ := Aside0.mk (below_step bwS hb); clear BK603; clear HB; have BK603 := n0_; have HB := n1_; clear n0_ n1_; (try clear hb); (try clear hb2); (try clear hk); (try clear hi)) | ((with_reducible refine gate_callee (f := 18) rfl ?_); refine goesL_ (some 6) rfl rfl Tryz.func18 (by kernel_rfl) rfl #[.string t604] rfl am ?_; (with_reducible refine (glyph_Fold.calls t604 t605 _ A3.out).mono ?_); rintro e w30 ⟨rfl, hb⟩; refine ⟨_, rfl, ?_⟩; have n0_ := Aside0.mk (blk_below (g := gb603) (o := .cells #[.slice A0_0 l0_0.length c0_0, .string a0_1] 28 (0, 0)) bk hb); have n1_ := Aside0.mk (below_step bwS hb); clear BK603; clear HB; have BK603 := n0_; have HB := n1_; clear n0_ n1_; (try clear hb); (try clear hb2); (try clear hk); (try clear hi)) | ((with_reducible refine gate_callee (f := 23) rfl ?_); refine goesL_ (some 7) rfl rfl Tryz.func23 (by kernel_rfl) rfl #[.string t605] rfl am ?_; (with_reducible refine (glyph_Words.calls t605 t606 _ A4.out).mono ?_); rintro e w31 ⟨v607, rfl, ho0, hb⟩; refine ⟨_, rfl, ?_⟩; have n0_ := Aside0.mk (Kd.R_lower ho0 (below_size bwS)); have n1_ := Aside0.mk (blk_below (g := gb603) (o := .cells #[.slice A0_0 l0_0.length c0_0, .string a0_1] 28 (0, 0)) bk hb); have n2_ := Aside0.mk (below_step bwS hb); clear BK603; clear HB; have HO608 := n0_; have BK603 := n1_; have HB := n2_; clear n0_ n1_ n2_; (try clear hb); (try clear hb2); (try clear hk); (try clear hi); (try clear ho0); obtain ⟨Ao32, co32, eo32⟩ := Kd.R_slice HO608.out; subst eo32; have p609 : 0 ≤ (0 : Int) := (by omega); have q609 : 0 < (t606.length : Int) := od; obtain ⟨ad609, e609, hx609_0⟩ := Kd.at_string (Kd.R_reads' HO608.out).2.2 0 p609 q609; cases e609; have qi609 : (0 < t606.length) = True := eq_true (by omega); (try rw [show ((0 : Int)).toNat = 0 from rfl] at hx609_0); (try rw [Addr.add_zero'] at hx609_0); replace p609 := eq_true p609; replace q609 := eq_true q609; have p610 : 0 ≤ (0 : Int) := (by omega); have q610 : 0 < (t606.length : Int) := od; obtain ⟨ad610, e610, hx610_0⟩ := Kd.at_string (Kd.R_reads' HO608.out).2.2 0 p610 q610; obtain rfl : ad609 = ad610 := (by injection e610); have qi610 : (0 < t606.length) = True := eq_true (by omega); (try rw [show ((0 : Int)).toNat = 0 from rfl] at hx610_0); (try rw [Addr.add_zero'] at hx610_0); replace p610 := eq_true p610; replace q610 := eq_true q610))
  go_ret
  exact ⟨ew, bwS⟩
 rw [if_neg c12] at H; exact absurd H (by simp)
end Go.Proofs.YtcndmhpeolbepaaGreatDoor.Fn
namespace Go.Proofs.YtcndmhpeolbepaaGreatDoor.Fn
attribute [local go_sem] max2_int min2_int max_two min_two max_three min_three max_four min_four
attribute [local go_sem high] eqA194
def addr_is.f (l0 : List (S194)) (a1 : ByteArray) : Option (Bool) := if (l0.length : Int) > 0 then (if 0 < (l0.length : Int) then (some (((rd_T194 l0 0).f0) == 3 && ((((rd_T194 l0 0).f1).toList) == a1.toList))) else (none)) else (some false)
set_option maxRecDepth 100000 in
theorem addr_is.calls (A0 : Option Addr) (c0 : Nat) (l0 : List (S194)) (a1 : ByteArray) (r : Bool) (w : World) (hr0 : Kd.C k194 w A0 l0.length l0) (hc0 : l0.length ≤ c0) (h : addr_is.f l0 a1 = some r) :
  Calls Tryz.prog 217 #[.slice A0 l0.length c0, .string a1] w fun e w' => e = .returned (.bool r) ∧ Drawn0 w w' := by
 have hu194 := Tryz.underlying194; have HR0 := Aside0.mk hr0; have HC0 := Aside0.mk hc0; clear hr0 hc0; have H : (if (l0.length : Int) > 0 then (if 0 < (l0.length : Int) then (some (((rd_T194 l0 0).f0) == 3 && ((((rd_T194 l0 0).f1).toList) == a1.toList))) else (none)) else (some false)) = some r := h; clear h
 by_cases c3 : (l0.length : Int) > 0
 ·rw [if_pos c3] at H; have c3b0 : decide (0 < (l0.length : Int)) = true := decide_eq_true c3; have c3b1 : decide (0 < l0.length) = true := decide_eq_true (by omega); clear c3
  by_cases c4 : 0 < (l0.length : Int)
  ·rw [if_pos c4] at H; have c4b0 := decide_eq_true c4; have c4b1 : decide (0 < l0.length) = true := decide_eq_true (by omega); clear c4; obtain rfl := Option.some.inj H; have p494 : 0 ≤ (0 : Int) := (by omega)
   have q494 : 0 < (l0.length : Int) := od; obtain ⟨ad494, e494, hx494_0, hx494_1⟩ := at_T194 HR0.out 0 p494 q494; cases e494; have qi494 : (0 < l0.length) = True := eq_true (by omega)
   (try rw [show ((0 : Int)).toNat = 0 from rfl] at hx494_0)
   (try rw [show 0 * 2 = 0 from rfl] at hx494_0)
   (try rw [Addr.add_zero'] at hx494_0)
   (try rw [show ((0 : Int)).toNat = 0 from rfl] at hx494_1)
   (try rw [show 0 * 2 = 0 from rfl] at hx494_1)
   (try rw [Addr.add_zero'] at hx494_1)
   replace p494 := eq_true p494; replace q494 := eq_true q494
   go_enter Tryz.func217, Tryz.ntmps217
   go_wp2
   go_ret
   exact ⟨cl, d0⟩
  rw [if_neg c4] at H; exact absurd H (by simp)
 rw [if_neg c3] at H; have c3b0 : decide (0 < (l0.length : Int)) = false := decide_eq_false c3; have c3b1 : decide (0 < l0.length) = false := decide_eq_false (by omega); clear c3; obtain rfl := Option.some.inj H
 go_enter Tryz.func217, Tryz.ntmps217
 go_wp2
 go_ret
 exact ⟨cl, d0⟩
end Go.Proofs.YtcndmhpeolbepaaGreatDoor.Fn
namespace Go.Proofs.YtcndmhpeolbepaaGreatDoor.Fn
open Go.RowKit Go.Proofs.YtcndmhpeolbepaaGreatDoorW.PrintWords Go.Proofs.YtcndmhpeolbepaaGreatDoorW.PrintLast Go.Proofs.YtcndmhpeolbepaaGreatDoorW.PrintMore
attribute [local go_sem] max2_int min2_int max_two min_two max_three min_three max_four min_four
set_option linter.unusedVariables false
set_option linter.unusedSimpArgs false

mutual
def addr_joined.l0 : Nat → List (S194) → Bool → ByteArray → Option (ByteArray × (List (S194)) × Bool)
 | 0, _, _, _ => none
 | k + 1, x0, x1, x7 => if (x0.length : Int) = 0 then (addr_joined.j1 k x0 x1 x7 true) else (if 0 < (x0.length : Int) then (if ((rd_T194 x0 0).f0) = 3 then (addr_joined.j1 k x0 x1 x7 true) else (if x1 = true then (addr_joined.j1 k x0 x1 x7 (((rd_T194 x0 0).f0) != 1)) else (addr_joined.j1 k x0 x1 x7 false))) else (none))
def addr_joined.j1 : Nat → List (S194) → Bool → ByteArray → Bool → Option (ByteArray × (List (S194)) × Bool)
 | 0, _, _, _, _ => none
 | k + 1, x0, x1, x7, x27 => if x27 = true then (some ((⟨#[]⟩ : ByteArray), ([] : List (S194)), false)) else (if 0 < (x0.length : Int) then (if x7.size + ((rd_T194 x0 0).f1).size ≤ 9223372036854775807 then (if 1 ≤ (x0.length : Int) then ((some (x0.drop 1 : List (S194))).bind fun y498 => ((addr_is.f y498 (⟨#[46]⟩ : ByteArray)).bind fun t503 => (if t503 = true then (if (x7 ++ ((rd_T194 x0 0).f1)).size + 1 ≤ 9223372036854775807 then (if 1 ≤ (y498.length : Int) then (addr_joined.l0 k (y498.drop 1) x1 ((x7 ++ ((rd_T194 x0 0).f1)) ++ (⟨#[46]⟩ : ByteArray))) else (none)) else (none)) else (some (x7 ++ ((rd_T194 x0 0).f1), y498, true))))) else (none)) else (none)) else (none))
end
def addr_joined.f (k : Nat) (l0 : List (S194)) (a1 : Bool) : Option (ByteArray × (List (S194)) × Bool) := addr_joined.l0 k l0 a1 (⟨#[]⟩ : ByteArray)
set_option maxHeartbeats 8000000 in
set_option maxRecDepth 100000 in
theorem addr_joined.calls (k : Nat) (P0_ : Nat → Prop) (A0 : Option Addr) (c0 : Nat) (l0 : List (S194)) (a1 : Bool) (r1 : ByteArray) (r2 : List (S194)) (r3 : Bool) (w : World) (hs0 : Kd.V k194 194 w w.heap.size (fun k_ => P0_ k_) (.slice A0 l0.length c0) l0) (h : addr_joined.f k l0 a1 = some (r1, r2, r3)) :
  Calls Tryz.prog 216 #[.slice A0 l0.length c0, .bool a1] w fun e w' => ∃ v1_ : Value, e = .returned (.tuple #[.string r1, v1_, .bool r3]) ∧ Kd.V k194 194 w' w.heap.size (fun k_ => (P0_ k_ ∨ w.heap.size ≤ k_)) v1_ r2 ∧ Below w.heap.size w w' := by
 have HO0 := Aside0.mk (show Kd.V k194 194 w w.heap.size (fun k_ => (P0_ k_ ∨ w.heap.size ≤ k_)) (.slice A0 l0.length c0) l0 from Kd.V_mono hs0 (fun k_ hk => .inl hk)); have HB := Aside0.mk (Below.refl w.heap.size w); have H : (addr_joined.l0 k l0 a1 (⟨#[]⟩ : ByteArray)) = some (r1, r2, r3) := h; clear h; have H' := Aside0.mk H; clear H
 go_enter Tryz.func216, Tryz.ntmps216
 go_wp2
 go_loopg [0, 7] k (fun kq v0 v7 w' => ∃ (x0_1 : List (S194)) (x7_1 : ByteArray), v7 = .string x7_1 ∧ Aside0 (addr_joined.l0 kq x0_1 a1 x7_1 = some (r1, r2, r3)) ∧ Aside0 (kq ≤ k) ∧ Aside0 (Kd.V k194 194 w' w.heap.size (fun k_ => (P0_ k_ ∨ w.heap.size ≤ k_)) v0 x0_1) ∧ Aside0 (Below w.heap.size w w'))
 case atStart => exact ⟨(l0), ((⟨#[]⟩ : ByteArray)), cl, H', ⟨Nat.le_refl _⟩, ⟨by (with_reducible repeat (first | apply Kd.V_alloc | apply Kd.V_drewN | apply Kd.V_drew)); exact HO0.out⟩, ⟨bw⟩⟩
 case round =>
  clear H'; obtain ⟨x0_1, x7_1, rfl, HA, HK1, HO_0, HB⟩ := hrel; cases gk with
  | zero => exact absurd HA.out (by simp [addr_joined.l0])
  | succ k1 =>
   have H := HA.out; clear HA; simp only [addr_joined.l0] at H; have HC3 := Aside0.mk H; clear H
   go_upto_region 2 with (fail)
   go_cut [27] (fun v27 wc => ∃ (kq : Nat) (x27_2 : Bool), v27 = .bool x27_2 ∧ Aside0 (addr_joined.j1 kq x0_1 a1 x7_1 x27_2 = some (r1, r2, r3)) ∧ Aside0 (kq ≤ k1) ∧ Aside0 (Kd.V k194 194 wc w.heap.size (fun k_ => (P0_ k_ ∨ w.heap.size ≤ k_)) u0 x0_1) ∧ Aside0 (Below w.heap.size w wc))
   case first =>
    have H := HC3.out; clear HC3
    by_cases c4 : (x0_1.length : Int) = 0
    ·rw [if_pos c4] at H; have c4b0 := beq_iff_eq.mpr c4; have c4b1 := bne_eq_false_iff_eq.mpr c4; clear c4
     (first | rw [c4b0] | (simp only [i64_w, i32_w]; rw [c4b0]) | skip)
     have H' := Aside0.mk H; clear H; obtain ⟨Ao5, co5, eo5⟩ := Kd.V_slice HO_0.out; subst eo5
     go_wp2
     go_meet
     case rel => exact ⟨_, (true), cl, H', ⟨by have := HK1.out; first | omega | exact Nat.le_refl _⟩, ⟨by (with_reducible repeat (first | apply Kd.V_alloc | apply Kd.V_drewN | apply Kd.V_drew)); exact HO_0.out⟩, ⟨bw⟩⟩
    rw [if_neg c4] at H; have c4b0 := beq_eq_false_iff_ne.mpr c4; have c4b1 := bne_iff_ne.mpr c4; have c4b2 : ¬ (x0_1 = []) := fun h_ => c4 (by rw [h_]; rfl)
    (first | rw [c4b0] | (simp only [i64_w, i32_w]; rw [c4b0]) | skip)
    by_cases c6 : 0 < (x0_1.length : Int)
    ·rw [if_pos c6] at H; have c6b0 := decide_eq_true c6; have c6b1 : decide (0 < x0_1.length) = true := decide_eq_true (by omega); clear c6
     by_cases c7 : ((rd_T194 x0_1 0).f0) = 3
     ·rw [if_pos c7] at H; have c7b0 := beq_iff_eq.mpr c7; have c7b1 := bne_eq_false_iff_eq.mpr c7; clear c7; have H' := Aside0.mk H; clear H; obtain ⟨Ao8, co8, eo8⟩ := Kd.V_slice HO_0.out; subst eo8; have p495 : 0 ≤ (0 : Int) := (by omega)
      have q495 : 0 < (x0_1.length : Int) := od; obtain ⟨ad495, e495, hx495_0, hx495_1⟩ := at_T194 (Kd.V_reads' HO_0.out).2.2 0 p495 q495; cases e495; have qi495 : (0 < x0_1.length) = True := eq_true (by omega)
      (try rw [show ((0 : Int)).toNat = 0 from rfl] at hx495_0)
      (try rw [show 0 * 2 = 0 from rfl] at hx495_0)
      (try rw [Addr.add_zero'] at hx495_0)
      (try rw [show ((0 : Int)).toNat = 0 from rfl] at hx495_1)
      (try rw [show 0 * 2 = 0 from rfl] at hx495_1)
      (try rw [Addr.add_zero'] at hx495_1)
      replace p495 := eq_true p495; replace q495 := eq_true q495
      go_wp2
      go_meet
      case rel => exact ⟨_, (true), cl, H', ⟨by have := HK1.out; first | omega | exact Nat.le_refl _⟩, ⟨by (with_reducible repeat (first | apply Kd.V_alloc | apply Kd.V_drewN | apply Kd.V_drew)); exact HO_0.out⟩, ⟨bw⟩⟩
     rw [if_neg c7] at H; have c7b0 := beq_eq_false_iff_ne.mpr c7; have c7b1 := bne_iff_ne.mpr c7
     by_cases c9 : a1 = true
     ·subst c9; rw [if_pos rfl] at H; have H' := Aside0.mk H; clear H; obtain ⟨Ao10, co10, eo10⟩ := Kd.V_slice HO_0.out; subst eo10; have p495 : 0 ≤ (0 : Int) := (by omega)
      have q495 : 0 < (x0_1.length : Int) := od; obtain ⟨ad495, e495, hx495_0, hx495_1⟩ := at_T194 (Kd.V_reads' HO_0.out).2.2 0 p495 q495; cases e495; have qi495 : (0 < x0_1.length) = True := eq_true (by omega)
      (try rw [show ((0 : Int)).toNat = 0 from rfl] at hx495_0)
      (try rw [show 0 * 2 = 0 from rfl] at hx495_0)
      (try rw [Addr.add_zero'] at hx495_0)
      (try rw [show ((0 : Int)).toNat = 0 from rfl] at hx495_1)
      (try rw [show 0 * 2 = 0 from rfl] at hx495_1)
      (try rw [Addr.add_zero'] at hx495_1)
      replace p495 := eq_true p495; replace q495 := eq_true q495; have p496 : 0 ≤ (0 : Int) := (by omega)
      have q496 : 0 < (x0_1.length : Int) := od; obtain ⟨ad496, e496, hx496_0, hx496_1⟩ := at_T194 (Kd.V_reads' HO_0.out).2.2 0 p496 q496; obtain rfl : ad495 = ad496 := (by injection e496)
      have qi496 : (0 < x0_1.length) = True := eq_true (by omega)
      (try rw [show ((0 : Int)).toNat = 0 from rfl] at hx496_0)
      (try rw [show 0 * 2 = 0 from rfl] at hx496_0)
      (try rw [Addr.add_zero'] at hx496_0)
      (try rw [show ((0 : Int)).toNat = 0 from rfl] at hx496_1)
      (try rw [show 0 * 2 = 0 from rfl] at hx496_1)
      (try rw [Addr.add_zero'] at hx496_1)
      replace p496 := eq_true p496; replace q496 := eq_true q496
      go_wp2
      go_meet
      case rel => exact ⟨_, ((((rd_T194 x0_1 0).f0) != 1)), cl, H', ⟨by have := HK1.out; first | omega | exact Nat.le_refl _⟩, ⟨by (with_reducible repeat (first | apply Kd.V_alloc | apply Kd.V_drewN | apply Kd.V_drew)); exact HO_0.out⟩, ⟨bw⟩⟩
     replace c9 := Bool.eq_false_iff.mpr c9; subst c9; rw [if_neg nft] at H; have H' := Aside0.mk H; clear H; obtain ⟨Ao11, co11, eo11⟩ := Kd.V_slice HO_0.out; subst eo11; have p495 : 0 ≤ (0 : Int) := (by omega)
     have q495 : 0 < (x0_1.length : Int) := od; obtain ⟨ad495, e495, hx495_0, hx495_1⟩ := at_T194 (Kd.V_reads' HO_0.out).2.2 0 p495 q495; cases e495; have qi495 : (0 < x0_1.length) = True := eq_true (by omega)
     (try rw [show ((0 : Int)).toNat = 0 from rfl] at hx495_0)
     (try rw [show 0 * 2 = 0 from rfl] at hx495_0)
     (try rw [Addr.add_zero'] at hx495_0)
     (try rw [show ((0 : Int)).toNat = 0 from rfl] at hx495_1)
     (try rw [show 0 * 2 = 0 from rfl] at hx495_1)
     (try rw [Addr.add_zero'] at hx495_1)
     replace p495 := eq_true p495; replace q495 := eq_true q495
     go_wp2
     go_meet
     case rel => exact ⟨_, (false), cl, H', ⟨by have := HK1.out; first | omega | exact Nat.le_refl _⟩, ⟨by (with_reducible repeat (first | apply Kd.V_alloc | apply Kd.V_drewN | apply Kd.V_drew)); exact HO_0.out⟩, ⟨bw⟩⟩
    rw [if_neg c6] at H; exact absurd H (by simp)
   case rest =>
    clear HC3; obtain ⟨kq, x27_2, rfl, HA, HJ2, HO_0, HB⟩ := hcut; cases kq with
    | zero => exact absurd HA.out (by simp [addr_joined.j1])
    | succ kj2 =>
     have H := HA.out; clear HA; simp only [addr_joined.j1] at H
     by_cases c12 : x27_2 = true
     ·subst c12; rw [if_pos rfl] at H; simp only [Option.some.injEq, Prod.mk.injEq] at H; obtain ⟨rfl, rfl, rfl⟩ := H
      go_wp2
      go_ret3
      exact ⟨_, ew, (by first | exact Kd.V_nil _ _ _ _ _ | exact Kd.V_mono (Kd.R_V (by first | exact Kd.R_nil _ _ _ _ _ | exact Kd.N_nil _ _ _ _ _ | exact Kd.V_nil _ _ _ _ _ | exact Kd.Q_nil _ _ _ _ _ | exact Kd.S_nil _ _ _ _ _)) (fun k_ hk => by first | exact ⟨(.inr (hk.1)), hk.2⟩ | exact (.inr (hk)))), bw⟩
     replace c12 := Bool.eq_false_iff.mpr c12; subst c12; rw [if_neg nft] at H
     by_cases c13 : 0 < (x0_1.length : Int)
     ·rw [if_pos c13] at H; have c13b0 := decide_eq_true c13; have c13b1 : decide (0 < x0_1.length) = true := decide_eq_true (by omega); clear c13
      by_cases c14 : x7_1.size + ((rd_T194 x0_1 0).f1).size ≤ 9223372036854775807
      ·rw [if_pos c14] at H; have c14b0 := eq_true c14; have c14b1 := decide_eq_true c14
       try have c14b2 : (9223372036854775807 < x7_1.size + ((rd_T194 x0_1 0).f1).size) = False := eq_false (Nat.not_lt.2 c14)
       by_cases c15 : 1 ≤ (x0_1.length : Int)
       ·rw [if_pos c15] at H; have c15b0 := eq_true c15; have c15b1 := decide_eq_true c15; clear c15; obtain ⟨y498, hy498⟩ : ∃ y_ : List (S194), y_ = (x0_1.drop 1) := ⟨_, rfl⟩
        replace H : ((addr_is.f y498 (⟨#[46]⟩ : ByteArray)).bind fun t503 => (if t503 = true then (if (x7_1 ++ ((rd_T194 x0_1 0).f1)).size + 1 ≤ 9223372036854775807 then (if 1 ≤ (y498.length : Int) then (addr_joined.l0 kj2 (y498.drop 1) a1 ((x7_1 ++ ((rd_T194 x0_1 0).f1)) ++ (⟨#[46]⟩ : ByteArray))) else (none)) else (none)) else (some (x7_1 ++ ((rd_T194 x0_1 0).f1), y498, true)))) = some (r1, r2, r3) := by first | (rw [hy498]; with_reducible exact H) | (have H2_ := (Option.bind_some _ _).symm.trans H; rw [hy498]; with_reducible exact H2_) | (have H2_ := (Option.bind_some _ _).symm.trans H; with_reducible exact H2_) | with_reducible exact H | (rw [hy498]; exact H) | exact H
        have Ny498 := Aside0.mk hy498; clear hy498; replace H := Option.bind_eq_some_iff.mp H; obtain ⟨t503, A160, H⟩ := H; have A16 := Aside0.mk A160; clear A160
        by_cases c17 : t503 = true
        ·subst c17; rw [if_pos rfl] at H
         by_cases c18 : (x7_1 ++ ((rd_T194 x0_1 0).f1)).size + 1 ≤ 9223372036854775807
         ·rw [if_pos c18] at H; have c18b0 := eq_true c18; have c18b1 := decide_eq_true c18
          try have c18b2 : (9223372036854775807 < (x7_1 ++ ((rd_T194 x0_1 0).f1)).size + 1) = False := eq_false (Nat.not_lt.2 c18)
          try (have c18b3 := c18; simp only [ByteArray.size_append, size_lit, ByteArray.size_extract, List.size_toArray, List.length_cons, List.length_nil, Nat.zero_add, Nat.reduceAdd] at c18b3; have c18b4 := eq_false (Nat.not_lt.2 c18b3))
          by_cases c19 : 1 ≤ (y498.length : Int)
          ·rw [if_pos c19] at H; have c19b0 := eq_true c19; have c19b1 := decide_eq_true c19; clear c19; obtain ⟨y504, hy504⟩ : ∃ y_ : List (S194), y_ = (y498.drop 1) := ⟨_, rfl⟩
           replace H : (addr_joined.l0 kj2 y504 a1 ((x7_1 ++ ((rd_T194 x0_1 0).f1)) ++ (⟨#[46]⟩ : ByteArray))) = some (r1, r2, r3) := by first | (rw [hy504]; with_reducible exact H) | (have H2_ := (Option.bind_some _ _).symm.trans H; rw [hy504]; with_reducible exact H2_) | (have H2_ := (Option.bind_some _ _).symm.trans H; with_reducible exact H2_) | with_reducible exact H | (rw [hy504]; exact H) | exact H
           have Ny504 := Aside0.mk hy504; clear hy504; have H' := Aside0.mk H; clear H; obtain ⟨Ao20, co20, eo20⟩ := Kd.V_slice HO_0.out; subst eo20; have p497 : 0 ≤ (0 : Int) := (by omega)
           have q497 : 0 < (x0_1.length : Int) := od; obtain ⟨ad497, e497, hx497_0, hx497_1⟩ := at_T194 (Kd.V_reads' HO_0.out).2.2 0 p497 q497; cases e497; have qi497 : (0 < x0_1.length) = True := eq_true (by omega)
           (try rw [show ((0 : Int)).toNat = 0 from rfl] at hx497_0)
           (try rw [show 0 * 2 = 0 from rfl] at hx497_0)
           (try rw [Addr.add_zero'] at hx497_0)
           (try rw [show ((0 : Int)).toNat = 0 from rfl] at hx497_1)
           (try rw [show 0 * 2 = 0 from rfl] at hx497_1)
           (try rw [Addr.add_zero'] at hx497_1)
           replace p497 := eq_true p497; replace q497 := eq_true q497; have q21 : (1 : Int) ≤ ((x0_1.length : Int) : Int) := od; obtain ⟨i021, hi021, _, hsz21, _⟩ := info_parts info194; have hroom21 : x0_1.length ≤ co20 := (Kd.V_reads' HO_0.out).2.1; have hC21 : Kd.F k194 _ _ (some ad497) x0_1.length x0_1 := (Kd.V_at (base := w.heap.size) HO_0.out).2.2; have hcut21 := cut_from (P := Tryz.prog) 173 194 .i64 Tryz.underlying173 hi021 2 hsz21 (some ad497) x0_1.length co20 1 (by omega) q21; have hr21 := Kd.F_cut (m := (1 : Int).toNat) (c := co20) hC21 (by omega) hroom21; obtain ⟨A21, hA21⟩ : ∃ A1, A1 = (if co20 = (1 : Int).toNat then (some ad497) else ((some ad497) : Option Addr).map (·.add ((1 : Int).toNat * 2))) := ⟨_, rfl⟩
           obtain ⟨c21, hc21⟩ : ∃ c1, c1 = co20 - (1 : Int).toNat := ⟨_, rfl⟩
           have hy21 : y498.length = x0_1.length - (1 : Int).toNat := (by rw [Ny498.out, List.length_drop] <;> omega)
           rw [show (x0_1).drop (1 : Int).toNat = y498 from Ny498.out.symm] at hr21; replace hr21 : Kd.F k194 _ _ A21 y498.length y498 := (by rw [hA21]; exact hr21)
           rw [← hy21, ← hA21, ← hc21] at hcut21; have HO502 := Aside0.mk (show Kd.V k194 194 _ w.heap.size _ (.slice A21 y498.length c21) y498 from Kd.V_mk (by rw [hy21, hc21]; exact Nat.sub_le_sub_right hroom21 _) hr21); have HC502 := Aside0.mk (show y498.length ≤ c21 from by rw [hy21, hc21]; exact Nat.sub_le_sub_right hroom21 _); clear hr21 hC21 hroom21 hi021 hsz21 hc21; have KY21 := Aside0.mk hy21; have KA21 := Aside0.mk hA21; clear hy21 hA21; replace q21 := eq_true q21
           go_wp2_with (first | ((with_reducible refine gate_callee (f := 217) rfl ?_); refine goesL_ (some 37) rfl rfl Tryz.func217 (by kernel_rfl) rfl #[.slice A21 y498.length c21, .string (⟨#[46]⟩ : ByteArray)] rfl am ?_; (with_reducible refine (addr_is.calls _ _ y498 (⟨#[46]⟩ : ByteArray) true _ ?side1 ?side2 A16.out).mono ?_); (case side1 => repeat (first | exact (Kd.V_reads' HO502.out).2.2 | (with_reducible refine Kd.C_alloc ?_ _) | (with_reducible refine Kd.C_drewN ?_ _) | (with_reducible refine Kd.C_drew ?_))); (case side2 => exact (Kd.V_reads' HO502.out).2.1); rintro e w' ⟨rfl, ⟨nd, rfl⟩⟩; refine ⟨_, rfl, ?_⟩; have q22 : (1 : Int) ≤ ((y498.length : Int) : Int) := od; obtain ⟨i022, hi022, _, hsz22, _⟩ := info_parts info194; have hroom22 : y498.length ≤ c21 := (Kd.V_reads' HO502.out).2.1; have hC22 : Kd.F k194 _ _ A21 y498.length y498 := (Kd.V_at (base := w.heap.size) HO502.out).2.2; have hcut22 := cut_from (P := Tryz.prog) 173 194 .i64 Tryz.underlying173 hi022 2 hsz22 A21 y498.length c21 1 (by omega) q22; have hr22 := Kd.F_cut (m := (1 : Int).toNat) (c := c21) hC22 (by omega) hroom22; obtain ⟨A22, hA22⟩ : ∃ A1, A1 = (if c21 = (1 : Int).toNat then A21 else (A21 : Option Addr).map (·.add ((1 : Int).toNat * 2))) := ⟨_, rfl⟩; obtain ⟨c22, hc22⟩ : ∃ c1, c1 = c21 - (1 : Int).toNat := ⟨_, rfl⟩; have hy22 : y504.length = y498.length - (1 : Int).toNat := (by rw [Ny504.out, List.length_drop] <;> omega); rw [show (y498).drop (1 : Int).toNat = y504 from Ny504.out.symm] at hr22; replace hr22 : Kd.F k194 _ _ A22 y504.length y504 := (by rw [hA22]; exact hr22); rw [← hy22, ← hA22, ← hc22] at hcut22; have HO508 := Aside0.mk (show Kd.V k194 194 _ w.heap.size _ (.slice A22 y504.length c22) y504 from Kd.V_mk (by rw [hy22, hc22]; exact Nat.sub_le_sub_right hroom22 _) hr22); have HC508 := Aside0.mk (show y504.length ≤ c22 from by rw [hy22, hc22]; exact Nat.sub_le_sub_right hroom22 _); clear hr22 hC22 hroom22 hi022 hsz22 hc22; have KY22 := Aside0.mk hy22; have KA22 := Aside0.mk hA22; clear hy22 hA22; replace q22 := eq_true q22))
           go_roundg kj2
           case measure => have := HK1.out; have := HJ2.out; omega
           case rel => exact ⟨(y504), ((x7_1 ++ ((rd_T194 x0_1 0).f1)) ++ (⟨#[46]⟩ : ByteArray)), cl, H', ⟨by have := HK1.out; have := HJ2.out; omega⟩, ⟨by (with_reducible repeat (first | apply Kd.V_alloc | apply Kd.V_drewN | apply Kd.V_drew)); exact HO508.out⟩, ⟨bw⟩⟩
          rw [if_neg c19] at H; exact absurd H (by simp)
         rw [if_neg c18] at H; exact absurd H (by simp)
        replace c17 := Bool.eq_false_iff.mpr c17; subst c17; rw [if_neg nft] at H; simp only [Option.some.injEq, Prod.mk.injEq] at H; obtain ⟨rfl, rfl, rfl⟩ := H; obtain ⟨Ao23, co23, eo23⟩ := Kd.V_slice HO_0.out; subst eo23; have p497 : 0 ≤ (0 : Int) := (by omega)
        have q497 : 0 < (x0_1.length : Int) := od; obtain ⟨ad497, e497, hx497_0, hx497_1⟩ := at_T194 (Kd.V_reads' HO_0.out).2.2 0 p497 q497; cases e497; have qi497 : (0 < x0_1.length) = True := eq_true (by omega)
        (try rw [show ((0 : Int)).toNat = 0 from rfl] at hx497_0)
        (try rw [show 0 * 2 = 0 from rfl] at hx497_0)
        (try rw [Addr.add_zero'] at hx497_0)
        (try rw [show ((0 : Int)).toNat = 0 from rfl] at hx497_1)
        (try rw [show 0 * 2 = 0 from rfl] at hx497_1)
        (try rw [Addr.add_zero'] at hx497_1)
        replace p497 := eq_true p497; replace q497 := eq_true q497; have q24 : (1 : Int) ≤ ((x0_1.length : Int) : Int) := od; obtain ⟨i024, hi024, _, hsz24, _⟩ := info_parts info194; have hroom24 : x0_1.length ≤ co23 := (Kd.V_reads' HO_0.out).2.1; have hC24 : Kd.F k194 _ _ (some ad497) x0_1.length x0_1 := (Kd.V_at (base := w.heap.size) HO_0.out).2.2; have hcut24 := cut_from (P := Tryz.prog) 173 194 .i64 Tryz.underlying173 hi024 2 hsz24 (some ad497) x0_1.length co23 1 (by omega) q24; have hr24 := Kd.F_cut (m := (1 : Int).toNat) (c := co23) hC24 (by omega) hroom24; obtain ⟨A24, hA24⟩ : ∃ A1, A1 = (if co23 = (1 : Int).toNat then (some ad497) else ((some ad497) : Option Addr).map (·.add ((1 : Int).toNat * 2))) := ⟨_, rfl⟩
        obtain ⟨c24, hc24⟩ : ∃ c1, c1 = co23 - (1 : Int).toNat := ⟨_, rfl⟩
        have hy24 : y498.length = x0_1.length - (1 : Int).toNat := (by rw [Ny498.out, List.length_drop] <;> omega)
        rw [show (x0_1).drop (1 : Int).toNat = y498 from Ny498.out.symm] at hr24; replace hr24 : Kd.F k194 _ _ A24 y498.length y498 := (by rw [hA24]; exact hr24)
        rw [← hy24, ← hA24, ← hc24] at hcut24; have HO502 := Aside0.mk (show Kd.V k194 194 _ w.heap.size _ (.slice A24 y498.length c24) y498 from Kd.V_mk (by rw [hy24, hc24]; exact Nat.sub_le_sub_right hroom24 _) hr24); have HC502 := Aside0.mk (show y498.length ≤ c24 from by rw [hy24, hc24]; exact Nat.sub_le_sub_right hroom24 _); clear hr24 hC24 hroom24 hi024 hsz24 hc24; have KY24 := Aside0.mk hy24; have KA24 := Aside0.mk hA24; clear hy24 hA24; replace q24 := eq_true q24
        go_wp2_with (first | ((with_reducible refine gate_callee (f := 217) rfl ?_); refine goesL_ (some 37) rfl rfl Tryz.func217 (by kernel_rfl) rfl #[.slice A24 y498.length c24, .string (⟨#[46]⟩ : ByteArray)] rfl am ?_; (with_reducible refine (addr_is.calls _ _ y498 (⟨#[46]⟩ : ByteArray) false _ ?side1 ?side2 A16.out).mono ?_); (case side1 => repeat (first | exact (Kd.V_reads' HO502.out).2.2 | (with_reducible refine Kd.C_alloc ?_ _) | (with_reducible refine Kd.C_drewN ?_ _) | (with_reducible refine Kd.C_drew ?_))); (case side2 => exact (Kd.V_reads' HO502.out).2.1); rintro e w' ⟨rfl, ⟨nd, rfl⟩⟩; refine ⟨_, rfl, ?_⟩))
        go_ret3
        exact ⟨_, ew, by (with_reducible repeat (first | apply Kd.V_alloc | apply Kd.V_drewN | apply Kd.V_drew)); exact HO502.out, bw⟩
       rw [if_neg c15] at H; exact absurd H (by simp)
      rw [if_neg c14] at H; exact absurd H (by simp)
     rw [if_neg c13] at H; exact absurd H (by simp)

end Go.Proofs.YtcndmhpeolbepaaGreatDoor.Fn
namespace Go.Proofs.YtcndmhpeolbepaaGreatDoor.Fn
open Go.RowKit Go.Proofs.YtcndmhpeolbepaaGreatDoorW.PrintWords Go.Proofs.YtcndmhpeolbepaaGreatDoorW.PrintLast Go.Proofs.YtcndmhpeolbepaaGreatDoorW.PrintMore
attribute [local go_sem] max2_int min2_int max_two min_two max_three min_three max_four min_four
set_option linter.unusedVariables false
set_option linter.unusedSimpArgs false

mutual
def addr_Of.j0 : Nat → List (S194) → ByteArray → Bool → Option (ByteArray × ByteArray × Int)
 | 0, _, _, _ => none
 | k + 1, x0, x4, x21 => if x21 = true then (some ((⟨#[]⟩ : ByteArray), (⟨#[]⟩ : ByteArray), 130)) else (if 1 ≤ (x0.length : Int) then ((addr_joined.f k (x0.drop 1) true).bind fun bt526 => (if bt526.2.2 = true then (addr_Of.j1 k x4 bt526.1 (decide ((bt526.2.1.length : Int) > 0))) else (addr_Of.j1 k x4 bt526.1 true))) else (none))
def addr_Of.j1 : Nat → ByteArray → ByteArray → Bool → Option (ByteArray × ByteArray × Int)
 | 0, _, _, _ => none
 | k + 1, x4, x6, x36 => if x36 = true then (some ((⟨#[]⟩ : ByteArray), (⟨#[]⟩ : ByteArray), 130)) else ((glyph_Fold.f x6).bind fun t531 => ((addr_why.f k x4 t531).bind fun t533 => (if t533 = 0 then (some (x4, t531, 0)) else (some ((⟨#[]⟩ : ByteArray), (⟨#[]⟩ : ByteArray), t533)))))
end
def addr_Of.f (k : Nat) (l0 : List (S194)) : Option (ByteArray × ByteArray × Int) := (addr_joined.f k l0 false).bind fun bt515 => (if bt515.2.2 = true then ((addr_is.f bt515.2.1 (⟨#[64]⟩ : ByteArray)).bind fun t520 => (addr_Of.j0 k bt515.2.1 bt515.1 (!t520))) else (addr_Of.j0 k bt515.2.1 bt515.1 true))
set_option maxHeartbeats 8000000 in
set_option maxRecDepth 100000 in
theorem addr_Of.calls (k : Nat) (A0 : Option Addr) (c0 : Nat) (l0 : List (S194)) (r1 : ByteArray) (r2 : ByteArray) (r3 : Int) (w : World) (hr0 : Kd.C k194 w A0 l0.length l0) (hc0 : l0.length ≤ c0) (h : addr_Of.f k l0 = some (r1, r2, r3)) :
  Calls Tryz.prog 213 #[.slice A0 l0.length c0] w fun e w' => e = .returned (.tuple #[.agg #[.string r1, .string r2], .int .i64 r3]) ∧ Below w.heap.size w w' := by
 have hu30 := Tryz.underlying30; have HR0 := Aside0.mk hr0; have HC0 := Aside0.mk hc0; clear hr0 hc0; have HB := Aside0.mk (Below.refl w.heap.size w); have H : ((addr_joined.f k l0 false).bind fun bt515 => (if bt515.2.2 = true then ((addr_is.f bt515.2.1 (⟨#[64]⟩ : ByteArray)).bind fun t520 => (addr_Of.j0 k bt515.2.1 bt515.1 (!t520))) else (addr_Of.j0 k bt515.2.1 bt515.1 true))) = some (r1, r2, r3) := h; clear h; replace H := Option.bind_eq_some_iff.mp H; obtain ⟨⟨t515, t516, t519⟩, A20, H⟩ := H; replace H : (if t519 = true then ((addr_is.f t516 (⟨#[64]⟩ : ByteArray)).bind fun t520 => (addr_Of.j0 k t516 t515 (!t520))) else (addr_Of.j0 k t516 t515 true)) = some (r1, r2, r3) := H; have A2 := Aside0.mk A20; clear A20; have HC3 := Aside0.mk H; clear H
 go_enter Tryz.func213, Tryz.ntmps213
 go_upto_region 2 with (first | ((with_reducible refine gate_dst (N := 2) rfl ?_); (try (refine gate_guard (by rfl) ?_; dsimp only)); refine box_event ?hg (N := 2) ?hd (cs := #[.string (⟨#[]⟩ : ByteArray), .string (⟨#[]⟩ : ByteArray)]) (t := 30) ?hr ?_; (case hd => rfl); (case hg => rfl); (case hr => first | (go_simp; done) | (go_simp; rfl)); intro gb514 hg w4 hbox hb; have n0_ := Aside0.mk (below_step bw hb); have n1_ := Aside0.mk (hbox); have n2_ := Aside0.mk ((by rw [hg]; exact (below_size bw) : w.heap.size ≤ gb514)); have n3_ := Aside0.mk ((by rw [hg]; exact (below_size bw) : w.heap.size ≤ gb514)); clear HB; have HB := n0_; have BK514 := n1_; have GW514 := n2_; have GE514 := n3_; clear n0_ n1_ n2_ n3_; clear hb hbox hg) | ((with_reducible refine gate_callee (f := 216) rfl ?_); refine goesL_ (some 11) rfl rfl Tryz.func216 (by kernel_rfl) rfl #[.slice A0 l0.length c0, .bool false] rfl am ?_; (with_reducible refine (addr_joined.calls k (fun k_ => k_ < w.heap.size) _ _ l0 false t515 t516 t519 _ ?side1 A2.out).mono ?_); (case side1 => exact Kd.V_mk HC0.out (Kd.F_below (Kd.C_F k194_heap HR0.out) bwS)); rintro e w5 ⟨v517, rfl, ho0, hb⟩; refine ⟨_, rfl, ?_⟩; have n0_ := Aside0.mk (Kd.V_lower (Kd.V_mono (ok' := fun k_ => k_ ≠ gb514) ho0 (fun k_ hk_ => Or.elim hk_ (fun hs_ => fun e_ => Nat.not_le.2 hs_ (by rw [e_]; exact GW514.out)) (fun hn_ => (Kd.freshB (g := gb514) (o := .cells #[.string (⟨#[]⟩ : ByteArray), .string (⟨#[]⟩ : ByteArray)] 30 (0, 0)) bk k_ hn_)))) (below_size bwS)); have n1_ := Aside0.mk (blk_below (g := gb514) (o := .cells #[.string (⟨#[]⟩ : ByteArray), .string (⟨#[]⟩ : ByteArray)] 30 (0, 0)) bk hb); have n2_ := Aside0.mk (below_step bwS hb); clear BK514; clear HB; have HO518 := n0_; have BK514 := n1_; have HB := n2_; clear n0_ n1_ n2_; (try clear hb); (try clear hb2); (try clear hk); (try clear hi); (try clear ho0)))
 (try simp only [Act.put, sa_, sz_, ss_])
 go_cut [21] (fun v21 wc => ∃ (kq : Nat) (x21_2 : Bool), v21 = .bool x21_2 ∧ Aside0 (addr_Of.j0 kq t516 t515 x21_2 = some (r1, r2, r3)) ∧ Aside0 (kq ≤ k) ∧ Aside0 (Kd.V k194 194 wc w.heap.size (fun k_ => k_ ≠ gb514) v517 t516) ∧ Aside0 (wc.heap[gb514]? = some (.cells #[.string (⟨#[]⟩ : ByteArray), .string (⟨#[]⟩ : ByteArray)] 30 (0, 0))) ∧ Aside0 (Below w.heap.size w wc))
 case first =>
  have H := HC3.out; clear HC3
  by_cases c6 : t519 = true
  ·subst c6; rw [if_pos rfl] at H; replace H := Option.bind_eq_some_iff.mp H; obtain ⟨t520, A70, H⟩ := H; have A7 := Aside0.mk A70; clear A70; have H' := Aside0.mk H; clear H; obtain ⟨Ao8, co8, eo8⟩ := Kd.V_slice HO518.out; subst eo8
   go_wp2_with (first | (go_at_call 217; (with_reducible refine (addr_is.calls _ _ t516 (⟨#[64]⟩ : ByteArray) t520 _ ?side1 ?side2 A7.out).mono ?_); (case side1 => repeat (first | exact (Kd.V_reads' HO518.out).2.2 | (with_reducible refine Kd.C_alloc ?_ _) | (with_reducible refine Kd.C_drewN ?_ _) | (with_reducible refine Kd.C_drew ?_))); (case side2 => exact (Kd.V_reads' HO518.out).2.1); rintro e w' ⟨rfl, ⟨nd, rfl⟩⟩))
   go_meet
   case rel => exact ⟨_, (!t520), cl, H', ⟨by first | omega | exact Nat.le_refl _⟩, ⟨by (with_reducible repeat (first | apply Kd.V_alloc | apply Kd.V_drewN | apply Kd.V_drew)); exact HO518.out⟩, ⟨bk⟩, ⟨bwS⟩⟩
  replace c6 := Bool.eq_false_iff.mpr c6; subst c6; rw [if_neg nft] at H; have H' := Aside0.mk H; clear H
  go_wp2
  go_meet
  case rel => exact ⟨_, (true), cl, H', ⟨by first | omega | exact Nat.le_refl _⟩, ⟨by (with_reducible repeat (first | apply Kd.V_alloc | apply Kd.V_drewN | apply Kd.V_drew)); exact HO518.out⟩, ⟨bk⟩, ⟨bwS⟩⟩
 case rest =>
  clear HC3; obtain ⟨kq, x21_2, rfl, HA, HJ2, HO_0, BK514, HB⟩ := hcut; cases kq with
  | zero => exact absurd HA.out (by simp [addr_Of.j0])
  | succ kj2 =>
   have H := HA.out; clear HA; simp only [addr_Of.j0] at H
   by_cases c9 : x21_2 = true
   ·subst c9; rw [if_pos rfl] at H; simp only [Option.some.injEq, Prod.mk.injEq] at H; obtain ⟨rfl, rfl, rfl⟩ := H; obtain ⟨hcz10_0, hcz10_1, hfz10_0, hfz10_1⟩ := bk2 BK514.out
    go_wp2
    refine bodyPost_ret (results_ct rfl _ _ gb514 30 #[.string (⟨#[]⟩ : ByteArray), .string (⟨#[]⟩ : ByteArray)] (0, 0) _ rfl (by (with_reducible repeat (first | refine blk_drewN ?_ _ | refine blk_drew ?_ | refine blk_alloc ?_ _)); refine blk_put (cs := #[.string (⟨#[]⟩ : ByteArray), .string (⟨#[]⟩ : ByteArray)]) ?_ 1 _ rfl; (with_reducible repeat (first | refine blk_drewN ?_ _ | refine blk_drew ?_ | refine blk_alloc ?_ _)); exact blk_put (cs := #[.string (⟨#[]⟩ : ByteArray), .string (⟨#[]⟩ : ByteArray)]) bk 0 _ rfl) Tryz.underlying30 rfl (by kernel_rfl)) rfl ?_; exact ⟨ew, bwS⟩
   replace c9 := Bool.eq_false_iff.mpr c9; subst c9; rw [if_neg nft] at H
   by_cases c11 : 1 ≤ (t516.length : Int)
   ·rw [if_pos c11] at H; have c11b0 := eq_true c11; have c11b1 := decide_eq_true c11; clear c11; obtain ⟨y521, hy521⟩ : ∃ y_ : List (S194), y_ = (t516.drop 1) := ⟨_, rfl⟩
    replace H : ((addr_joined.f kj2 y521 true).bind fun bt526 => (if bt526.2.2 = true then (addr_Of.j1 kj2 t515 bt526.1 (decide ((bt526.2.1.length : Int) > 0))) else (addr_Of.j1 kj2 t515 bt526.1 true))) = some (r1, r2, r3) := by first | (rw [hy521]; with_reducible exact H) | (have H2_ := (Option.bind_some _ _).symm.trans H; rw [hy521]; with_reducible exact H2_) | (have H2_ := (Option.bind_some _ _).symm.trans H; with_reducible exact H2_) | with_reducible exact H | (rw [hy521]; exact H) | exact H
    have Ny521 := Aside0.mk hy521; clear hy521; replace H := Option.bind_eq_some_iff.mp H; obtain ⟨⟨t526, t527, t530⟩, A120, H⟩ := H; replace H : (if t530 = true then (addr_Of.j1 kj2 t515 t526 (decide ((t527.length : Int) > 0))) else (addr_Of.j1 kj2 t515 t526 true)) = some (r1, r2, r3) := H; have A12 := Aside0.mk A120; clear A120; have HC13 := Aside0.mk H; clear H; obtain ⟨Ao15, co15, eo15⟩ := Kd.V_slice HO_0.out; subst eo15; have q14 : (1 : Int) ≤ ((t516.length : Int) : Int) := od; obtain ⟨i014, hi014, _, hsz14, _⟩ := info_parts info194; have hroom14 : t516.length ≤ co15 := (Kd.V_reads' HO_0.out).2.1; have hC14 : Kd.F k194 _ _ Ao15 t516.length t516 := (Kd.V_at (base := w.heap.size) HO_0.out).2.2; have hcut14 := cut_from (P := Tryz.prog) 173 194 .i64 Tryz.underlying173 hi014 2 hsz14 Ao15 t516.length co15 1 (by omega) q14; have hr14 := Kd.F_cut (m := (1 : Int).toNat) (c := co15) hC14 (by omega) hroom14; obtain ⟨A14, hA14⟩ : ∃ A1, A1 = (if co15 = (1 : Int).toNat then Ao15 else (Ao15 : Option Addr).map (·.add ((1 : Int).toNat * 2))) := ⟨_, rfl⟩
    obtain ⟨c14, hc14⟩ : ∃ c1, c1 = co15 - (1 : Int).toNat := ⟨_, rfl⟩
    have hy14 : y521.length = t516.length - (1 : Int).toNat := (by rw [Ny521.out, List.length_drop] <;> omega)
    rw [show (t516).drop (1 : Int).toNat = y521 from Ny521.out.symm] at hr14; replace hr14 : Kd.F k194 _ _ A14 y521.length y521 := (by rw [hA14]; exact hr14)
    rw [← hy14, ← hA14, ← hc14] at hcut14; have HO525 := Aside0.mk (show Kd.V k194 194 _ w.heap.size _ (.slice A14 y521.length c14) y521 from Kd.V_mk (by rw [hy14, hc14]; exact Nat.sub_le_sub_right hroom14 _) hr14); have HC525 := Aside0.mk (show y521.length ≤ c14 from by rw [hy14, hc14]; exact Nat.sub_le_sub_right hroom14 _); clear hr14 hC14 hroom14 hi014 hsz14 hc14; have KY14 := Aside0.mk hy14; have KA14 := Aside0.mk hA14; clear hy14 hA14; replace q14 := eq_true q14
    go_upto_region 5 with (first | ((with_reducible refine gate_callee (f := 216) rfl ?_); refine goesL_ (some 26) rfl rfl Tryz.func216 (by kernel_rfl) rfl #[.slice A14 y521.length c14, .bool true] rfl am ?_; (with_reducible refine (addr_joined.calls kj2 (fun k_ => k_ ≠ gb514) _ _ y521 true t526 t527 t530 _ ?side1 A12.out).mono ?_); (case side1 => exact HO525.out); rintro e w16 ⟨v528, rfl, ho0, hb⟩; refine ⟨_, rfl, ?_⟩; have n0_ := Aside0.mk (Kd.V_below (by (with_reducible repeat (first | apply Kd.V_alloc | apply Kd.V_drewN | apply Kd.V_drew)); exact HO_0.out) hb); have n1_ := Aside0.mk (Kd.V_below (by (with_reducible repeat (first | apply Kd.V_alloc | apply Kd.V_drewN | apply Kd.V_drew)); exact HO525.out) hb); have n2_ := Aside0.mk (Kd.V_lower (Kd.V_mono (ok' := fun k_ => k_ ≠ gb514) ho0 (fun k_ hk_ => Or.elim hk_ (fun hs_ => hs_) (fun hn_ => (Kd.freshB (g := gb514) (o := .cells #[.string (⟨#[]⟩ : ByteArray), .string (⟨#[]⟩ : ByteArray)] 30 (0, 0)) bk k_ hn_)))) (below_size bwS)); have n3_ := Aside0.mk (blk_below (g := gb514) (o := .cells #[.string (⟨#[]⟩ : ByteArray), .string (⟨#[]⟩ : ByteArray)] 30 (0, 0)) bk hb); have n4_ := Aside0.mk (below_step bwS hb); clear HO_0; clear HO525; clear BK514; clear HB; have HO_0 := n0_; have HO525 := n1_; have HO529 := n2_; have BK514 := n3_; have HB := n4_; clear n0_ n1_ n2_ n3_ n4_; (try clear hb); (try clear hb2); (try clear hk); (try clear hi); (try clear ho0)))
    (try simp only [Act.put, sa_, sz_, ss_])
    go_cut [36] (fun v36 wc => ∃ (kq : Nat) (x36_12 : Bool), v36 = .bool x36_12 ∧ Aside0 (addr_Of.j1 kq t515 t526 x36_12 = some (r1, r2, r3)) ∧ Aside0 (kq ≤ kj2) ∧ Aside0 (wc.heap[gb514]? = some (.cells #[.string (⟨#[]⟩ : ByteArray), .string (⟨#[]⟩ : ByteArray)] 30 (0, 0))) ∧ Aside0 (Below w.heap.size w wc))
    case first =>
     have H := HC13.out; clear HC13
     by_cases c17 : t530 = true
     ·subst c17; rw [if_pos rfl] at H; have H' := Aside0.mk H; clear H; obtain ⟨Ao18, co18, eo18⟩ := Kd.V_slice HO529.out; subst eo18
      go_wp2
      go_meet
      case rel => exact ⟨_, (decide ((t527.length : Int) > 0)), cl, H', ⟨by have := HJ2.out; first | omega | exact Nat.le_refl _⟩, ⟨bk⟩, ⟨bwS⟩⟩
     replace c17 := Bool.eq_false_iff.mpr c17; subst c17; rw [if_neg nft] at H; have H' := Aside0.mk H; clear H
     go_wp2
     go_meet
     case rel => exact ⟨_, (true), cl, H', ⟨by have := HJ2.out; first | omega | exact Nat.le_refl _⟩, ⟨bk⟩, ⟨bwS⟩⟩
    case rest =>
     clear HC13 c11b0 c11b1 q14; obtain ⟨kq, x36_12, rfl, HA, HJ12, BK514, HB⟩ := hcut; cases kq with
     | zero => exact absurd HA.out (by simp [addr_Of.j1])
     | succ kj12 =>
      have H := HA.out; clear HA; simp only [addr_Of.j1] at H
      by_cases c19 : x36_12 = true
      ·subst c19; rw [if_pos rfl] at H; simp only [Option.some.injEq, Prod.mk.injEq] at H; obtain ⟨rfl, rfl, rfl⟩ := H; obtain ⟨hcz20_0, hcz20_1, hfz20_0, hfz20_1⟩ := bk2 BK514.out
       go_wp2
       refine bodyPost_ret (results_ct rfl _ _ gb514 30 #[.string (⟨#[]⟩ : ByteArray), .string (⟨#[]⟩ : ByteArray)] (0, 0) _ rfl (by (with_reducible repeat (first | refine blk_drewN ?_ _ | refine blk_drew ?_ | refine blk_alloc ?_ _)); refine blk_put (cs := #[.string (⟨#[]⟩ : ByteArray), .string (⟨#[]⟩ : ByteArray)]) ?_ 1 _ rfl; (with_reducible repeat (first | refine blk_drewN ?_ _ | refine blk_drew ?_ | refine blk_alloc ?_ _)); exact blk_put (cs := #[.string (⟨#[]⟩ : ByteArray), .string (⟨#[]⟩ : ByteArray)]) bk 0 _ rfl) Tryz.underlying30 rfl (by kernel_rfl)) rfl ?_; exact ⟨ew, bwS⟩
      replace c19 := Bool.eq_false_iff.mpr c19; subst c19; rw [if_neg nft] at H; replace H := Option.bind_eq_some_iff.mp H; obtain ⟨t531, A210, H⟩ := H; have A21 := Aside0.mk A210; clear A210; replace H := Option.bind_eq_some_iff.mp H; obtain ⟨t533, A220, H⟩ := H; have A22 := Aside0.mk A220; clear A220
      by_cases c23 : t533 = 0
      ·rw [if_pos c23] at H; have c23b0 := beq_iff_eq.mpr c23; have c23b1 := bne_eq_false_iff_eq.mpr c23; clear c23; simp only [Option.some.injEq, Prod.mk.injEq] at H; obtain ⟨rfl, rfl, rfl⟩ := H
       go_wp2_with (first | ((with_reducible refine gate_callee (f := 18) rfl ?_); refine goesL_ (some 40) rfl rfl Tryz.func18 (by kernel_rfl) rfl #[.string t526] rfl am ?_; (with_reducible refine (glyph_Fold.calls t526 t531 _ A21.out).mono ?_); rintro e w24 ⟨rfl, hb⟩; refine ⟨_, rfl, ?_⟩; have n0_ := Aside0.mk (blk_below (g := gb514) (o := .cells #[.string (⟨#[]⟩ : ByteArray), .string (⟨#[]⟩ : ByteArray)] 30 (0, 0)) bk hb); have n1_ := Aside0.mk (below_step bwS hb); clear BK514; clear HB; have BK514 := n0_; have HB := n1_; clear n0_ n1_; (try clear hb); (try clear hb2); (try clear hk); (try clear hi)) | ((with_reducible refine gate_dst (N := 7) rfl ?_); (try (refine gate_guard (by rfl) ?_; dsimp only)); refine box_event ?hg (N := 7) ?hd (cs := #[.string (⟨#[]⟩ : ByteArray), .string (⟨#[]⟩ : ByteArray)]) (t := 30) ?hr ?_; (case hd => rfl); (case hg => rfl); (case hr => first | (go_simp; done) | (go_simp; rfl)); intro gb532 hg w25 hbox hb; have n0_ := Aside0.mk (blk_below (g := gb514) (o := .cells #[.string (⟨#[]⟩ : ByteArray), .string (⟨#[]⟩ : ByteArray)] 30 (0, 0)) bk hb); have n1_ := Aside0.mk (below_step bwS hb); have n2_ := Aside0.mk (hbox); have n3_ := Aside0.mk ((by rw [hg]; exact (below_size bwS) : w.heap.size ≤ gb532)); have n4_ := Aside0.mk ((by rw [hg]; exact (below_size bwS) : w.heap.size ≤ gb532)); have n5_ := Aside0.mk ((by rw [hg]; exact Nat.ne_of_lt (blk_lt (g := gb514) (o := .cells #[.string (⟨#[]⟩ : ByteArray), .string (⟨#[]⟩ : ByteArray)] 30 (0, 0)) bk) : gb514 ≠ gb532)); have n6_ := Aside0.mk ((by rw [hg]; exact Nat.ne_of_gt (blk_lt (g := gb514) (o := .cells #[.string (⟨#[]⟩ : ByteArray), .string (⟨#[]⟩ : ByteArray)] 30 (0, 0)) bk) : gb532 ≠ gb514)); clear BK514; clear HB; have BK514 := n0_; have HB := n1_; have BK532 := n2_; have GW532 := n3_; have GE532 := n4_; have NB514_532 := n5_; have NB532_514 := n6_; clear n0_ n1_ n2_ n3_ n4_ n5_ n6_; clear hb hbox hg; have hnb26 := NB532_514.out; have hnc26 := NB514_532.out; obtain ⟨hcz27_0, hcz27_1⟩ := ce2 BK532; obtain ⟨hfz27_0, hfz27_1⟩ := fz2 BK532) | ((with_reducible refine gate_callee (f := 218) rfl ?_); refine goesL_ (some 43) rfl rfl Tryz.func218 (by kernel_rfl) rfl #[.agg #[.string t515, .string t531]] rfl am ?_; (with_reducible refine (addr_why.calls kj12 t515 t531 t533 _ A22.out).mono ?_); rintro e w28 ⟨rfl, hb⟩; refine ⟨_, rfl, ?_⟩; have n0_ := Aside0.mk (blk_below (g := gb514) (o := .cells #[.string (⟨#[]⟩ : ByteArray), .string (⟨#[]⟩ : ByteArray)] 30 (0, 0)) (by (with_reducible repeat (first | refine blk_drewN ?_ _ | refine blk_drew ?_ | refine blk_alloc ?_ _)); refine blk_far ?_ NB514_532.out _; (with_reducible repeat (first | refine blk_drewN ?_ _ | refine blk_drew ?_ | refine blk_alloc ?_ _)); refine blk_far ?_ NB514_532.out _; (with_reducible repeat (first | refine blk_drewN ?_ _ | refine blk_drew ?_ | refine blk_alloc ?_ _)); exact BK514.out) hb); have n1_ := Aside0.mk (blk_below (g := gb532) (o := .cells #[.string t515, .string t531] 30 (0, 0)) (by (with_reducible repeat (first | refine blk_drewN ?_ _ | refine blk_drew ?_ | refine blk_alloc ?_ _)); refine blk_put (cs := #[.string t515, .string (⟨#[]⟩ : ByteArray)]) ?_ 1 _ rfl; (with_reducible repeat (first | refine blk_drewN ?_ _ | refine blk_drew ?_ | refine blk_alloc ?_ _)); exact blk_put (cs := #[.string (⟨#[]⟩ : ByteArray), .string (⟨#[]⟩ : ByteArray)]) bk 0 _ rfl) hb); have n2_ := Aside0.mk (below_step bwS hb); clear BK514; clear BK532; clear HB; have BK514 := n0_; have BK532 := n1_; have HB := n2_; clear n0_ n1_ n2_; (try clear hb); (try clear hb2); (try clear hk); (try clear hi); obtain ⟨hcz29_0, hcz29_1⟩ := ce2 BK532; obtain ⟨hfz29_0, hfz29_1⟩ := fz2 BK532; obtain ⟨hcz30_0, hcz30_1⟩ := ce2 BK514; obtain ⟨hfz30_0, hfz30_1⟩ := fz2 BK514))
       refine bodyPost_ret (results_ct rfl _ _ gb514 30 #[.string t515, .string t531] (0, 0) _ rfl (by (with_reducible repeat (first | refine blk_drewN ?_ _ | refine blk_drew ?_ | refine blk_alloc ?_ _)); refine blk_put (cs := #[.string t515, .string (⟨#[]⟩ : ByteArray)]) ?_ 1 _ rfl; (with_reducible repeat (first | refine blk_drewN ?_ _ | refine blk_drew ?_ | refine blk_alloc ?_ _)); exact blk_put (cs := #[.string (⟨#[]⟩ : ByteArray), .string (⟨#[]⟩ : ByteArray)]) bk 0 _ rfl) Tryz.underlying30 rfl (by kernel_rfl)) rfl ?_; exact ⟨ew, bwS⟩
      rw [if_neg c23] at H; have c23b0 := beq_eq_false_iff_ne.mpr c23; have c23b1 := bne_iff_ne.mpr c23; simp only [Option.some.injEq, Prod.mk.injEq] at H; obtain ⟨rfl, rfl, rfl⟩ := H
      go_wp2_with (first | ((with_reducible refine gate_callee (f := 18) rfl ?_); refine goesL_ (some 40) rfl rfl Tryz.func18 (by kernel_rfl) rfl #[.string t526] rfl am ?_; (with_reducible refine (glyph_Fold.calls t526 t531 _ A21.out).mono ?_); rintro e w31 ⟨rfl, hb⟩; refine ⟨_, rfl, ?_⟩; have n0_ := Aside0.mk (blk_below (g := gb514) (o := .cells #[.string (⟨#[]⟩ : ByteArray), .string (⟨#[]⟩ : ByteArray)] 30 (0, 0)) bk hb); have n1_ := Aside0.mk (below_step bwS hb); clear BK514; clear HB; have BK514 := n0_; have HB := n1_; clear n0_ n1_; (try clear hb); (try clear hb2); (try clear hk); (try clear hi)) | ((with_reducible refine gate_dst (N := 7) rfl ?_); (try (refine gate_guard (by rfl) ?_; dsimp only)); refine box_event ?hg (N := 7) ?hd (cs := #[.string (⟨#[]⟩ : ByteArray), .string (⟨#[]⟩ : ByteArray)]) (t := 30) ?hr ?_; (case hd => rfl); (case hg => rfl); (case hr => first | (go_simp; done) | (go_simp; rfl)); intro gb532 hg w32 hbox hb; have n0_ := Aside0.mk (blk_below (g := gb514) (o := .cells #[.string (⟨#[]⟩ : ByteArray), .string (⟨#[]⟩ : ByteArray)] 30 (0, 0)) bk hb); have n1_ := Aside0.mk (below_step bwS hb); have n2_ := Aside0.mk (hbox); have n3_ := Aside0.mk ((by rw [hg]; exact (below_size bwS) : w.heap.size ≤ gb532)); have n4_ := Aside0.mk ((by rw [hg]; exact (below_size bwS) : w.heap.size ≤ gb532)); have n5_ := Aside0.mk ((by rw [hg]; exact Nat.ne_of_lt (blk_lt (g := gb514) (o := .cells #[.string (⟨#[]⟩ : ByteArray), .string (⟨#[]⟩ : ByteArray)] 30 (0, 0)) bk) : gb514 ≠ gb532)); have n6_ := Aside0.mk ((by rw [hg]; exact Nat.ne_of_gt (blk_lt (g := gb514) (o := .cells #[.string (⟨#[]⟩ : ByteArray), .string (⟨#[]⟩ : ByteArray)] 30 (0, 0)) bk) : gb532 ≠ gb514)); clear BK514; clear HB; have BK514 := n0_; have HB := n1_; have BK532 := n2_; have GW532 := n3_; have GE532 := n4_; have NB514_532 := n5_; have NB532_514 := n6_; clear n0_ n1_ n2_ n3_ n4_ n5_ n6_; clear hb hbox hg; have hnb33 := NB532_514.out; have hnc33 := NB514_532.out; obtain ⟨hcz34_0, hcz34_1⟩ := ce2 BK532; obtain ⟨hfz34_0, hfz34_1⟩ := fz2 BK532) | ((with_reducible refine gate_callee (f := 218) rfl ?_); refine goesL_ (some 43) rfl rfl Tryz.func218 (by kernel_rfl) rfl #[.agg #[.string t515, .string t531]] rfl am ?_; (with_reducible refine (addr_why.calls kj12 t515 t531 t533 _ A22.out).mono ?_); rintro e w35 ⟨rfl, hb⟩; refine ⟨_, rfl, ?_⟩; have n0_ := Aside0.mk (blk_below (g := gb514) (o := .cells #[.string (⟨#[]⟩ : ByteArray), .string (⟨#[]⟩ : ByteArray)] 30 (0, 0)) (by (with_reducible repeat (first | refine blk_drewN ?_ _ | refine blk_drew ?_ | refine blk_alloc ?_ _)); refine blk_far ?_ NB514_532.out _; (with_reducible repeat (first | refine blk_drewN ?_ _ | refine blk_drew ?_ | refine blk_alloc ?_ _)); refine blk_far ?_ NB514_532.out _; (with_reducible repeat (first | refine blk_drewN ?_ _ | refine blk_drew ?_ | refine blk_alloc ?_ _)); exact BK514.out) hb); have n1_ := Aside0.mk (blk_below (g := gb532) (o := .cells #[.string t515, .string t531] 30 (0, 0)) (by (with_reducible repeat (first | refine blk_drewN ?_ _ | refine blk_drew ?_ | refine blk_alloc ?_ _)); refine blk_put (cs := #[.string t515, .string (⟨#[]⟩ : ByteArray)]) ?_ 1 _ rfl; (with_reducible repeat (first | refine blk_drewN ?_ _ | refine blk_drew ?_ | refine blk_alloc ?_ _)); exact blk_put (cs := #[.string (⟨#[]⟩ : ByteArray), .string (⟨#[]⟩ : ByteArray)]) bk 0 _ rfl) hb); have n2_ := Aside0.mk (below_step bwS hb); clear BK514; clear BK532; clear HB; have BK514 := n0_; have BK532 := n1_; have HB := n2_; clear n0_ n1_ n2_; (try clear hb); (try clear hb2); (try clear hk); (try clear hi); obtain ⟨hcz36_0, hcz36_1⟩ := ce2 BK514; obtain ⟨hfz36_0, hfz36_1⟩ := fz2 BK514))
      refine bodyPost_ret (results_ct rfl _ _ gb514 30 #[.string (⟨#[]⟩ : ByteArray), .string (⟨#[]⟩ : ByteArray)] (0, 0) _ rfl (by (with_reducible repeat (first | refine blk_drewN ?_ _ | refine blk_drew ?_ | refine blk_alloc ?_ _)); refine blk_put (cs := #[.string (⟨#[]⟩ : ByteArray), .string (⟨#[]⟩ : ByteArray)]) ?_ 1 _ rfl; (with_reducible repeat (first | refine blk_drewN ?_ _ | refine blk_drew ?_ | refine blk_alloc ?_ _)); exact blk_put (cs := #[.string (⟨#[]⟩ : ByteArray), .string (⟨#[]⟩ : ByteArray)]) bk 0 _ rfl) Tryz.underlying30 rfl (by kernel_rfl)) rfl ?_; exact ⟨ew, bwS⟩
   rw [if_neg c11] at H; exact absurd H (by simp)

end Go.Proofs.YtcndmhpeolbepaaGreatDoor.Fn
namespace Go.Proofs.YtcndmhpeolbepaaGreatDoor.Pl
open Go.Proofs.YtcndmhpeolbepaaGreatDoor.Fn
/-! Layer 13: the address that tokens are. -/
def isT (t : Tok) (s : Bytes) : Bool := t.1 == 3 && t.2 == s
def wordT (t : Tok) : Bool := t.1 != 3
def atomT (t : Tok) : Bool := t.1 != 3 && t.1 == 1
def altOk (p : Tok → Bool) : List Tok → Bool
 | [] => false
 | [x] => p x
 | x :: d :: r => p x && isT d [46] && altOk p r
def cat (l : List Tok) : Bytes := l.flatMap (·.2)
def atSplit : List Tok → Option (List Tok × List Tok)
 | [] => none
 | t :: r => if isT t [64] = true then some ([], r) else (atSplit r).map fun x => (t :: x.1, x.2)
abbrev Res := ByteArray × ByteArray × Int
def finish (a b : Bytes) : Res := if why (str a) (str (fold b)) = 0 then (str a, str (fold b), 0) else (str [], str [], why (str a) (str (fold b)))
def noAddr : Res := (str [], str [], 130)
def ofT (l : List Tok) : Res := match atSplit l with
 | none => noAddr
 | some (A, B) => if altOk wordT A = true ∧ altOk atomT B = true then finish (cat A) (cat B) else noAddr
theorem atSplit_some {l A B : List Tok} (h : atSplit l = some (A, B)) : ∃ t, isT t [64] = true ∧ l = A ++ t :: B ∧ ∀ x ∈ A, isT x [64] = false := by
 induction l generalizing A B with
 | nil => cases h
 | cons t r ih =>
  rw [atSplit] at h
  by_cases ht : isT t [64] = true
  ·rw [if_pos ht] at h
   cases h
   exact ⟨t, ht, rfl, by simp⟩
  rw [if_neg ht] at h
  cases hr : atSplit r with
  | none => rw [hr] at h; cases h
  | some x =>
   obtain ⟨A', B'⟩ := x
   rw [hr] at h
   simp only [Option.map_some, Option.some.injEq, Prod.mk.injEq] at h
   obtain ⟨rfl, rfl⟩ := h
   obtain ⟨u, h1, h2, h3⟩ := ih hr
   refine ⟨u, h1, by rw [h2]; rfl, ?_⟩
   intro x hx
   rcases List.mem_cons.1 hx with e | e
   ·rw [e]; simpa using ht
   exact h3 x e
theorem atSplit_of {A B : List Tok} {t : Tok} (ht : isT t [64] = true) (hA : ∀ x ∈ A, isT x [64] = false) : atSplit (A ++ t :: B) = some (A, B) := by
 induction A with
 | nil => rw [List.nil_append, atSplit, if_pos ht]
 | cons a A ih =>
  rw [List.cons_append, atSplit, if_neg (by rw [hA a (by simp)]; decide), ih (fun x hx => hA x (List.mem_cons_of_mem _ hx))]
  rfl
/-! the program's: words joined by dots, as long as they go on -/
def jn (p : Tok → Bool) : List Tok → Option (Bytes × List Tok)
 | [] => none
 | [x] => if p x = true then some (x.2, []) else none
 | x :: d :: r => if p x = true then (if isT d [46] = true then (jn p r).map fun y => (x.2 ++ d.2 ++ y.1, y.2) else some (x.2, d :: r)) else none
theorem jn_some (p : Tok → Bool) : ∀ {l : List Tok} {s : Bytes} {q : List Tok}, jn p l = some (s, q) → ∃ A, l = A ++ q ∧ altOk p A = true ∧ s = cat A
 | [], s, q, h => by cases h
 | [x], s, q, h => by
  rw [jn] at h
  by_cases hp : p x = true
  ·rw [if_pos hp] at h
   simp only [Option.some.injEq, Prod.mk.injEq] at h
   obtain ⟨rfl, rfl⟩ := h
   exact ⟨[x], rfl, hp, by simp [cat]⟩
  rw [if_neg hp] at h; cases h
 | x :: d :: r, s, q, h => by
  rw [jn] at h
  by_cases hp : p x = true
  ·rw [if_pos hp] at h
   by_cases hd : isT d [46] = true
   ·rw [if_pos hd] at h
    cases hr : jn p r with
    | none => rw [hr] at h; cases h
    | some y =>
     obtain ⟨s', q'⟩ := y
     rw [hr] at h
     simp only [Option.map_some, Option.some.injEq, Prod.mk.injEq] at h
     obtain ⟨rfl, rfl⟩ := h
     obtain ⟨A, h1, h2, h3⟩ := jn_some p hr
     refine ⟨x :: d :: A, by rw [h1]; rfl, ?_, ?_⟩
     ·rw [altOk, hp, hd, h2]; rfl
     rw [h3]; simp [cat]
   rw [if_neg hd] at h
   simp only [Option.some.injEq, Prod.mk.injEq] at h
   obtain ⟨rfl, rfl⟩ := h
   exact ⟨[x], rfl, hp, by simp [cat]⟩
  rw [if_neg hp] at h; cases h
theorem jn_of (p : Tok → Bool) : ∀ (A q : List Tok), altOk p A = true → (∀ d r, q = d :: r → isT d [46] = false) → jn p (A ++ q) = some (cat A, q)
 | [], q, h, _ => by cases h
 | [x], q, h, hq => by
  have hp : p x = true := h
  cases q with
  | nil => rw [List.append_nil, jn, if_pos hp]; simp [cat]
  | cons d r =>
   rw [show [x] ++ d :: r = x :: d :: r from rfl, jn, if_pos hp, if_neg (by rw [hq d r rfl]; decide)]
   simp [cat]
 | x :: d :: A, q, h, hq => by
  rw [altOk, Bool.and_eq_true, Bool.and_eq_true] at h
  rw [show (x :: d :: A) ++ q = x :: d :: (A ++ q) from rfl, jn, if_pos h.1.1, if_pos h.1.2, jn_of p A q h.2 hq]
  simp [cat]
def resJ (w : Bytes) : Option (Bytes × List Tok) → ByteArray × List S194 × Bool
 | none => (str [], [], false)
 | some (s, q) => (str (w ++ s), q.map tok142, true)
def pOf (b : Bool) : Tok → Bool := fun t => if b = true then atomT t else wordT t
theorem rd142_0 (x : Tok) (r : List Tok) : rd_T194 ((x :: r).map tok142) 0 = tok142 x := rfl
theorem beq_str (t : Bytes) (a : Array UInt8) : ((str t).toList == (⟨a⟩ : ByteArray).toList) = (t == a.toList) := by
 rw [toList_str, toList_bs]
 rfl
def headIs (l : List Tok) (s : Bytes) : Bool := match l with | [] => false | t :: _ => isT t s
theorem addris_is (l : List Tok) (a : Array UInt8) : addr_is.f (l.map tok142) (⟨a⟩ : ByteArray) = some (headIs l a.toList) := by
 unfold addr_is.f
 cases l with
 | nil => rw [if_neg (by simp)]; rfl
 | cons t r =>
  rw [if_pos (by simp <;> omega), if_pos (by simp <;> omega), rd142_0]
  unfold headIs isT tok142
  simp only []
  rw [beq_str]
theorem joined_is (b : Bool) : ∀ (n k : Nat) (l : List Tok) (w : Bytes), l.length ≤ n → 2 * n + 2 ≤ k → w.length + (cat l).length ≤ 1000000 →
  addr_joined.l0 k (l.map tok142) b (str w) = some (resJ w (jn (pOf b) l))
 | n, k, [], w, hn, hk, hw => by
  obtain ⟨k, rfl⟩ : ∃ j, k = j + 2 := ⟨k - 2, by omega⟩
  rw [addr_joined.l0, if_pos (by simp), addr_joined.j1, if_pos rfl]
  rfl
 | 0, k, x :: r, w, hn, hk, hw => by simp at hn
 | n + 1, k, x :: r, w, hn, hk, hw => by
  obtain ⟨k, rfl⟩ : ∃ j, k = j + 2 := ⟨k - 2, by omega⟩
  simp only [List.length_cons] at hn
  have hsel : addr_joined.l0 (k + 2) ((x :: r).map tok142) b (str w) = addr_joined.j1 (k + 1) ((x :: r).map tok142) b (str w) (!(pOf b x)) := by
   rw [addr_joined.l0, if_neg (by simp <;> omega), if_pos (by simp <;> omega), rd142_0]
   have e3 : ((tok142 x).f0 = 3) = (x.1 = 3) := rfl
   unfold pOf atomT wordT
   by_cases h3 : x.1 = 3
   ·rw [if_pos (by rw [e3]; exact h3)]
    cases b <;> simp [h3]
   rw [if_neg (by rw [e3]; exact h3)]
   have q3 : (x.1 == 3) = false := by simpa using h3
   cases b with
   | true => rw [if_pos rfl]; simp [q3, tok142, bne]
   | false => rw [if_neg (by decide)]; simp [q3, bne]
  have hc : (cat (x :: r)).length = x.2.length + (cat r).length := by simp [cat]
  rw [hsel, addr_joined.j1]
  cases hp : pOf b x with
  | false =>
   rw [show (!false) = true from rfl, if_pos rfl]
   have : jn (pOf b) (x :: r) = none := by
    cases r with
    | nil => rw [jn, if_neg (by rw [hp]; decide)]
    | cons d r => rw [jn, if_neg (by rw [hp]; decide)]
   rw [this]
   rfl
  | true =>
   rw [show (!true) = false from rfl, if_neg (by decide), if_pos (by simp <;> omega), rd142_0, show (tok142 x).f1 = str x.2 from rfl, str_app, if_pos (by rw [str_size, str_size]; omega), if_pos (by simp <;> omega), Option.bind_some,
    show ((x :: r).map tok142).drop 1 = r.map tok142 from rfl, addris_is, Option.bind_some]
   cases r with
   | nil =>
    rw [show headIs [] (#[46] : Array UInt8).toList = false from rfl, if_neg (by decide), jn, if_pos hp]
    rfl
   | cons d r =>
    simp only [List.length_cons] at hn
    have hc2 : (cat (d :: r)).length = d.2.length + (cat r).length := by simp [cat]
    rw [jn, if_pos hp]
    cases hd : isT d [46] with
    | false =>
     rw [show headIs (d :: r) (#[46] : Array UInt8).toList = isT d [46] from rfl, hd, if_neg (by decide), if_neg (by decide)]
     rfl
    | true =>
     have hd2 : d.2 = [46] := by
      unfold isT at hd
      rw [Bool.and_eq_true, beq_iff_eq, beq_iff_eq] at hd
      exact hd.2
     rw [show headIs (d :: r) (#[46] : Array UInt8).toList = isT d [46] from rfl, hd, if_pos rfl, if_pos (by rw [str_size]; rw [hd2] at hc2; simp at hc2 ⊢ <;> omega), if_pos (by simp <;> omega), if_pos rfl,
      show ((d :: r).map tok142).drop 1 = r.map tok142 from rfl, show (⟨#[46]⟩ : ByteArray) = str [46] from rfl, str_app]
     rw [joined_is b n k r (w ++ x.2 ++ [46]) (by omega) (by omega) (by rw [hd2] at hc2; simp at hc2 ⊢ <;> omega)]
     cases hj : jn (pOf b) r with
     | none => rfl
     | some y =>
      obtain ⟨s, q⟩ := y
      simp [resJ, hd2]
theorem no64 {p : Tok → Bool} (hp : ∀ t, p t = true → t.1 ≠ 3) : ∀ {A : List Tok}, altOk p A = true → ∀ x ∈ A, isT x [64] = false
 | [], h, x, hx => by cases hx
 | [y], h, x, hx => by
  have : x = y := by simpa using hx
  subst this
  have := hp x h
  unfold isT
  simp [this]
 | y :: d :: A, h, x, hx => by
  rw [altOk, Bool.and_eq_true, Bool.and_eq_true] at h
  rcases List.mem_cons.1 hx with e | e
  ·rw [e]
   have := hp y h.1.1
   unfold isT
   simp [this]
  rcases List.mem_cons.1 e with e | e
  ·rw [e]
   have := h.1.2
   unfold isT at this ⊢
   rw [Bool.and_eq_true, beq_iff_eq, beq_iff_eq] at this
   rw [this.2]
   simp
  exact no64 hp h.2 x e
theorem addrOf_is (l : List Tok) (hl : l.length ≤ 100000) (hc : (cat l).length ≤ 100000) (k : Nat) (hk : 2 * l.length + 400000 ≤ k) : addr_Of.f k (l.map tok142) = some (ofT l) := by
 obtain ⟨k, rfl⟩ : ∃ j, k = j + 2 := ⟨k - 2, by omega⟩
 have bad : ∀ (k : Nat) (x : List S194) (y : ByteArray), addr_Of.j0 (k + 1) x y true = some noAddr := by
  intro k x y
  rw [addr_Of.j0, if_pos rfl]
  rfl
 have bad1 : ∀ (k : Nat) (x y : ByteArray), addr_Of.j1 (k + 1) x y true = some noAddr := by
  intro k x y
  rw [addr_Of.j1, if_pos rfl]
  rfl
 unfold addr_Of.f addr_joined.f
 rw [show (⟨#[]⟩ : ByteArray) = str [] from rfl, joined_is false l.length (k + 2) l [] (Nat.le_refl _) (by omega) (by simp <;> omega), Option.bind_some]
 have hpf : pOf false = wordT := by funext t; rfl
 have hpt : pOf true = atomT := by funext t; rfl
 rw [hpf]
 have hword : ∀ t, wordT t = true → t.1 ≠ 3 := fun t h => by unfold wordT at h; simpa using h
 cases hj : jn wordT l with
 | none =>
  rw [show resJ [] none = (str [], [], false) from rfl, if_neg (by decide), bad]
  unfold ofT
  cases hs : atSplit l with
  | none => rfl
  | some x =>
   obtain ⟨A, B⟩ := x
   obtain ⟨t, h1, h2, h3⟩ := atSplit_some hs
   simp only []
   rw [if_neg]
   rintro ⟨g, _⟩
   have := jn_of wordT A (t :: B) g (fun d r e => by
    cases e
    unfold isT at h1 ⊢
    rw [Bool.and_eq_true, beq_iff_eq, beq_iff_eq] at h1
    rw [h1.2]
    simp)
   rw [← h2, hj] at this
   cases this
 | some y =>
  obtain ⟨s, q⟩ := y
  obtain ⟨A0, g1, g2, g3⟩ := jn_some wordT hj
  have hA0 := no64 hword g2
  rw [show resJ [] (some (s, q)) = (str s, q.map tok142, true) from rfl]
  simp only [if_true]
  rw [addris_is, Option.bind_some]
  have hother : (∀ t r, q = t :: r → isT t [64] = false) → ofT l = noAddr := by
   intro hq
   unfold ofT
   cases hs : atSplit l with
   | none => rfl
   | some x =>
    obtain ⟨A, B⟩ := x
    obtain ⟨t, h1, h2, h3⟩ := atSplit_some hs
    simp only []
    rw [if_neg]
    rintro ⟨g, _⟩
    have hh := jn_of wordT A (t :: B) g (fun d r e => by
     cases e
     unfold isT at h1 ⊢
     rw [Bool.and_eq_true, beq_iff_eq, beq_iff_eq] at h1
     rw [h1.2]
     simp)
    rw [← h2, hj] at hh
    simp only [Option.some.injEq, Prod.mk.injEq] at hh
    have := hq t B hh.2
    rw [h1] at this
    cases this
  cases q with
  | nil =>
   rw [hother (fun t r e => by cases e)]
   exact bad _ _ _
  | cons t B =>
   simp only []
   rw [show headIs (t :: B) (#[64] : Array UInt8).toList = isT t [64] from rfl]
   cases ht : isT t [64] with
   | false =>
    rw [hother (fun t' r e => by cases e; exact ht)]
    exact bad _ _ _
   | true =>
    have hsp : atSplit l = some (A0, B) := by rw [g1]; exact atSplit_of ht hA0
    have hcl : (cat l).length = (cat A0).length + (t.2.length + (cat B).length) := by rw [g1]; simp [cat]
    have hll : l.length = A0.length + (B.length + 1) := by rw [g1]; simp
    rw [show (!true) = false from rfl, addr_Of.j0, if_neg (by decide), if_pos (by simp <;> omega), show ((t :: B).map tok142).drop 1 = B.map tok142 from rfl]
    unfold addr_joined.f
    rw [show (⟨#[]⟩ : ByteArray) = str [] from rfl, joined_is true B.length (k + 1) B [] (Nat.le_refl _) (by omega) (by simp <;> omega), Option.bind_some, hpt]
    unfold ofT
    rw [hsp]
    simp only []
    cases hj2 : jn atomT B with
    | none =>
     rw [show resJ [] none = (str [], [], false) from rfl, if_neg (by decide), bad1, if_neg]
     rintro ⟨_, g⟩
     have := jn_of atomT B [] g (fun d r e => by cases e)
     rw [List.append_nil, hj2] at this
     cases this
    | some y =>
     obtain ⟨s2, q2⟩ := y
     obtain ⟨A2, f1, f2, f3⟩ := jn_some atomT hj2
     rw [show resJ [] (some (s2, q2)) = (str s2, q2.map tok142, true) from rfl]
     simp only [if_true]
     cases q2 with
     | cons d r =>
      rw [show decide (((((d :: r).map tok142).length : Nat) : Int) > 0) = true by simp <;> omega, bad1, if_neg]
      rintro ⟨_, g⟩
      have := jn_of atomT B [] g (fun d r e => by cases e)
      rw [List.append_nil, hj2] at this
      simp at this
     | nil =>
      rw [List.append_nil] at f1
      subst f1
      rw [show decide ((((([] : List Tok).map tok142).length : Nat) : Int) > 0) = false from rfl, addr_Of.j1, if_neg (by decide), if_pos ⟨g2, f2⟩, f3, g3]
      have hb : (cat B).length ≤ 100000 := by omega
      have ha : (cat A0).length ≤ 100000 := by omega
      rw [glyphFold_is _ (by rw [str_size]; omega), bs_str, Option.bind_some, addrWhy_is _ _ (by rw [str_size]; omega) (by rw [str_size, fold_length]; omega) k (by rw [str_size]; omega), Option.bind_some]
      unfold finish
      by_cases hw : why (str (cat A0)) (str (fold (cat B))) = 0
      ·rw [if_pos hw, if_pos hw]
      rw [if_neg hw, if_neg hw]
      rfl
/-! how many tokens there are, and how long they are -/
def pend : Sc → Nat
 | .atom _ => 1
 | _ => 0
theorem cat_app (a b : List Tok) : cat (a ++ b) = cat a ++ cat b := by simp [cat]
theorem tail_len {c : UInt8} {l : Bytes} (h : foldAt (c :: l) = true) : l.tail.length + 1 = l.length := by
 cases l with
 | nil => cases h
 | cons b l => simp
theorem stepOut_bound {acc : List Tok} {c : UInt8} {l : Bytes} {a : List Tok} {t : Sc} {r : Bytes} (h : stepOut acc c l = .inl (a, t, r)) :
  a.length + pend t + r.length ≤ acc.length + (l.length + 1) ∧ (cat a).length + (wOf t).length + r.length ≤ (cat acc).length + (l.length + 1) := by
 unfold stepOut at h
 by_cases c1 : foldAt (c :: l) = true
 ·rw [if_pos c1] at h
  have := tail_len c1
  simp only [Sum.inl.injEq, Prod.mk.injEq] at h
  obtain ⟨rfl, rfl, rfl⟩ := h
  simp only [pend, wOf, List.length_nil]
  omega
 rw [if_neg c1] at h
 repeat' split at h
 all_goals (first | (cases h; done) | (simp only [Sum.inl.injEq, Prod.mk.injEq] at h; obtain ⟨rfl, rfl, rfl⟩ := h; simp only [pend, wOf, cat_app, List.length_append, List.length_nil, List.length_cons]; simp [cat]; try omega))
theorem step_bound {acc : List Tok} {st : Sc} {c : UInt8} {l : Bytes} {a : List Tok} {t : Sc} {r : Bytes} (h : step acc st c l = .inl (a, t, r)) :
  a.length + pend t + r.length ≤ acc.length + pend st + (l.length + 1) ∧ (cat a).length + (wOf t).length + r.length ≤ (cat acc).length + (wOf st).length + (l.length + 1) := by
 cases st with
 | out =>
  have := stepOut_bound h
  rw [show pend .out = 0 from rfl, show wOf .out = [] from rfl, List.length_nil]
  omega
 | atom w =>
  unfold step at h
  simp only [] at h
  by_cases ha : atomic c = true
  ·rw [if_pos ha] at h
   simp only [Sum.inl.injEq, Prod.mk.injEq] at h
   obtain ⟨rfl, rfl, rfl⟩ := h
   simp only [pend, wOf, List.length_append, List.length_cons, List.length_nil]
   omega
  rw [if_neg ha] at h
  have := stepOut_bound h
  rw [cat_app] at this
  rw [show pend (.atom w) = 1 from rfl, show wOf (.atom w) = w from rfl]
  simp only [List.length_append, List.length_cons, List.length_nil] at this ⊢
  have e : (cat [((1 : Int), w)]).length = w.length := by simp [cat]
  omega
 | quot w b =>
  cases b with
  | true =>
   unfold step at h
   simp only [] at h
   repeat' split at h
   all_goals (first | (cases h; done) | (simp only [Sum.inl.injEq, Prod.mk.injEq] at h; obtain ⟨rfl, rfl, rfl⟩ := h; simp only [pend, wOf, List.length_append, List.length_cons, List.length_nil]; omega))
  | false =>
   unfold step at h
   simp only [] at h
   by_cases c1 : foldAt (c :: l) = true
   ·rw [if_pos c1] at h
    have := tail_len c1
    simp only [Sum.inl.injEq, Prod.mk.injEq] at h
    obtain ⟨rfl, rfl, rfl⟩ := h
    simp only [pend, wOf]
    omega
   rw [if_neg c1] at h
   have e : (cat [((2 : Int), w)]).length = w.length := by simp [cat]
   repeat' split at h
   all_goals (first | (cases h; done) | (simp only [Sum.inl.injEq, Prod.mk.injEq] at h; obtain ⟨rfl, rfl, rfl⟩ := h; simp only [pend, wOf, cat_app, List.length_append, List.length_cons, List.length_nil]; omega))
 | comm d b =>
  cases b with
  | true =>
   unfold step at h
   simp only [] at h
   repeat' split at h
   all_goals (first | (cases h; done) | (simp only [Sum.inl.injEq, Prod.mk.injEq] at h; obtain ⟨rfl, rfl, rfl⟩ := h; simp only [pend, wOf, List.length_append, List.length_cons, List.length_nil]; omega))
  | false =>
   unfold step commAfter at h
   simp only [] at h
   by_cases c1 : foldAt (c :: l) = true
   ·rw [if_pos c1] at h
    have := tail_len c1
    simp only [Sum.inl.injEq, Prod.mk.injEq] at h
    obtain ⟨rfl, rfl, rfl⟩ := h
    simp only [pend, wOf]
    omega
   rw [if_neg c1] at h
   generalize (if c = 40 then d + 1 else if c = 41 then d - 1 else d) = d' at h
   repeat' split at h
   all_goals (first | (cases h; done) | (simp only [Sum.inl.injEq, Prod.mk.injEq] at h; obtain ⟨rfl, rfl, rfl⟩ := h; simp only [pend, wOf, List.length_nil]; omega))
theorem scan_bound : ∀ (k : Nat) (acc : List Tok) (st : Sc) (l : Bytes), l.length ≤ k →
  (scan k acc st l).1.length ≤ acc.length + pend st + l.length ∧ (cat (scan k acc st l).1).length ≤ (cat acc).length + (wOf st).length + l.length
 | k, acc, st, [], _ => by
  have e : scan k acc st [] = endOf acc st := by cases k <;> rfl
  rw [e]
  cases st <;> simp [endOf, pend, wOf, cat]
 | 0, acc, st, c :: l, h => by simp at h
 | k + 1, acc, st, c :: l, h => by
  rw [scan]
  simp only [List.length_cons] at h
  cases hs : step acc st c l with
  | inr e => simp [cat]
  | inl x =>
   obtain ⟨a, t, r⟩ := x
   have h1 := step_bound hs
   have h2 := step_le hs
   have ih := scan_bound k a t r (by omega)
   simp only [List.length_cons]
   omega
theorem scanL_bound (l : Bytes) : (scanL [] .out l).1.length ≤ l.length ∧ (cat (scanL [] .out l).1).length ≤ l.length := by
 have := scan_bound l.length [] .out l (Nat.le_refl _)
 unfold scanL
 simp only [List.length_nil, pend, wOf, cat, List.flatMap_nil] at this ⊢
 omega
/-! What is written is read again. -/
theorem finish_right {x y : Bytes} (h : (finish x y).2.2 = 0) : right (finish x y).1 (finish x y).2.1 = true := by
 unfold finish at h ⊢
 by_cases hw : why (str x) (str (fold y)) = 0
 ·rw [if_pos hw]
  unfold right
  simp only []
  rw [hw, bs_str, fold_idem]
  simp
 rw [if_neg hw] at h
 exact absurd h hw
/-! Layer 12: what is scanned: text bytes alone; quoted text is scanned again; two texts, side by side. -/
set_option maxRecDepth 100000 in
theorem atomic_text (c : UInt8) : atomic c = true → text c = true := forall_byte (p := fun c => atomic c = true → text c = true) (by decide +kernel) c
set_option maxRecDepth 100000 in
theorem sign_text (c : UInt8) : signB c = true → text c = true := forall_byte (p := fun c => signB c = true → text c = true) (by decide +kernel) c
def allT (l : List Tok) : Prop := ∀ t ∈ l, t.2.all text = true
theorem allT_add {l : List Tok} {t : Tok} (h : allT l) (ht : t.2.all text = true) : allT (l ++ [t]) := by
  intro x hx
  rcases List.mem_append.1 hx with h1 | h1
  · exact h x h1
  · rw [List.mem_singleton.1 h1]; exact ht
theorem stepOut_text {acc : List Tok} {c : UInt8} {l : Bytes} {a : List Tok} {t : Sc} {r : Bytes} (h : stepOut acc c l = .inl (a, t, r)) (ha : allT acc) : allT a ∧ (wOf t).all text = true := by
  unfold stepOut at h
  by_cases c1 : foldAt (c :: l) = true
  · rw [if_pos c1] at h; cases h; exact ⟨ha, rfl⟩
  rw [if_neg c1] at h
  by_cases c2 : atomic c = true
  · rw [if_pos c2] at h; cases h; exact ⟨ha, by simp [wOf, atomic_text c c2]⟩
  rw [if_neg c2] at h
  by_cases c3 : c = 34
  · rw [if_pos c3] at h; cases h; exact ⟨ha, rfl⟩
  rw [if_neg c3] at h
  by_cases c4 : c = 40
  · rw [if_pos c4] at h; cases h; exact ⟨ha, rfl⟩
  rw [if_neg c4] at h
  by_cases c5 : signB c = true
  · rw [if_pos c5] at h; cases h; exact ⟨allT_add ha (by simp [sign_text c c5]), rfl⟩
  rw [if_neg c5] at h
  by_cases c6 : whiteB c = true
  · rw [if_pos c6] at h; cases h; exact ⟨ha, rfl⟩
  rw [if_neg c6] at h
  cases h
theorem commAfter_text {acc : List Tok} {d : Nat} {l : Bytes} {a : List Tok} {t : Sc} {r : Bytes} (h : commAfter acc d l = .inl (a, t, r)) (ha : allT acc) : allT a ∧ (wOf t).all text = true := by
  unfold commAfter at h
  split at h
  · cases h
  · split at h <;> (cases h; exact ⟨ha, rfl⟩)
theorem step_text {acc : List Tok} {st : Sc} {c : UInt8} {l : Bytes} {a : List Tok} {t : Sc} {r : Bytes} (h : step acc st c l = .inl (a, t, r)) (ha : allT acc) (hw : (wOf st).all text = true) : allT a ∧ (wOf t).all text = true := by
  cases st with
  | out => exact stepOut_text h ha
  | atom w =>
    unfold step at h
    simp only [] at h
    by_cases c2 : atomic c = true
    · rw [if_pos c2] at h; cases h
      exact ⟨ha, by show (w ++ [c]).all text = true; rw [List.all_append]; simp [atomic_text c c2]; simpa [wOf] using hw⟩
    · rw [if_neg c2] at h
      exact stepOut_text h (allT_add ha hw)
  | quot w b =>
    have add : text c = true → (w ++ [c]).all text = true := fun ht => by
      rw [List.all_append]; simp [ht]; simpa [wOf] using hw
    cases b with
    | true =>
      unfold step at h
      simp only [] at h
      by_cases c2 : text c = true
      · rw [if_pos c2] at h; cases h; exact ⟨ha, add c2⟩
      · rw [if_neg c2] at h; cases h
    | false =>
      unfold step at h
      simp only [] at h
      by_cases c1 : foldAt (c :: l) = true
      · rw [if_pos c1] at h; cases h; exact ⟨ha, hw⟩
      rw [if_neg c1] at h
      by_cases c3 : c = 92
      · rw [if_pos c3] at h; cases h; exact ⟨ha, hw⟩
      rw [if_neg c3] at h
      by_cases c2 : text c = true
      · rw [if_pos c2] at h
        by_cases c4 : c = 34
        · rw [if_pos c4] at h; cases h; exact ⟨allT_add ha hw, rfl⟩
        · rw [if_neg c4] at h; cases h; exact ⟨ha, add c2⟩
      · rw [if_neg c2] at h; cases h
  | comm d b =>
    cases b with
    | true =>
      unfold step at h
      simp only [] at h
      split at h <;> cases h
      exact ⟨ha, rfl⟩
    | false =>
      unfold step at h
      simp only [] at h
      by_cases c1 : foldAt (c :: l) = true
      · rw [if_pos c1] at h; cases h; exact ⟨ha, rfl⟩
      rw [if_neg c1] at h
      by_cases c3 : c = 92
      · rw [if_pos c3] at h; cases h; exact ⟨ha, rfl⟩
      rw [if_neg c3] at h
      by_cases c2 : text c = true
      · rw [if_pos c2] at h; exact commAfter_text h ha
      · rw [if_neg c2] at h; cases h
theorem scan_text : ∀ (k : Nat) (acc : List Tok) (st : Sc) (l : Bytes), allT acc → (wOf st).all text = true → allT (scan k acc st l).1
  | k, acc, st, [], ha, hw => by
    have e : scan k acc st [] = endOf acc st := by cases k <;> rfl
    rw [e]
    cases st with
    | out => exact ha
    | atom w => exact allT_add ha hw
    | quot w b => intro t ht; cases ht
    | comm d b => intro t ht; cases ht
  | 0, acc, st, c :: l, ha, hw => by intro t ht; cases ht
  | k + 1, acc, st, c :: l, ha, hw => by
    rw [scan]
    cases hs : step acc st c l with
    | inr e => intro t ht; cases ht
    | inl x =>
      obtain ⟨a, t, r⟩ := x
      have := step_text hs ha hw
      exact scan_text k a t r this.1 this.2
def okTok (t : Tok) : Prop := t.1 = 3 → ∃ c, t.2 = [c]
theorem stepOut_ok {acc : List Tok} {c : UInt8} {l : Bytes} {a : List Tok} {t : Sc} {r : Bytes} (h : stepOut acc c l = .inl (a, t, r)) (ha : ∀ x ∈ acc, okTok x) : ∀ x ∈ a, okTok x := by
  unfold stepOut at h
  repeat' split at h
  all_goals first
    | (cases h; done)
    | (cases h; exact ha)
    | (cases h
       intro x hx
       rcases List.mem_append.1 hx with h1 | h1
       · exact ha x h1
       · rw [List.mem_singleton.1 h1]; exact fun _ => ⟨_, rfl⟩)
theorem okTok_add {l : List Tok} {t : Tok} (h : ∀ x ∈ l, okTok x) (ht : okTok t) : ∀ x ∈ l ++ [t], okTok x := by
  intro x hx
  rcases List.mem_append.1 hx with h1 | h1
  · exact h x h1
  · rw [List.mem_singleton.1 h1]; exact ht
theorem step_ok {acc : List Tok} {st : Sc} {c : UInt8} {l : Bytes} {a : List Tok} {t : Sc} {r : Bytes} (h : step acc st c l = .inl (a, t, r)) (ha : ∀ x ∈ acc, okTok x) : ∀ x ∈ a, okTok x := by
  cases st with
  | out => exact stepOut_ok h ha
  | atom w =>
    unfold step at h
    simp only [] at h
    split at h
    · cases h; exact ha
    · exact stepOut_ok h (okTok_add ha (fun e => by cases e))
  | quot w q =>
    cases q <;> unfold step at h <;> simp only [] at h <;> repeat' split at h
    all_goals first
      | (cases h; done)
      | (cases h; exact ha)
      | (cases h; exact okTok_add ha (fun e => by cases e))
  | comm d q =>
    cases q <;> unfold step at h <;> simp only [] at h <;> (try unfold commAfter at h) <;> repeat' split at h
    all_goals first
      | (cases h; done)
      | (cases h; exact ha)
theorem scan_ok : ∀ (k : Nat) (acc : List Tok) (st : Sc) (l : Bytes), (∀ x ∈ acc, okTok x) → ∀ x ∈ (scan k acc st l).1, okTok x
  | k, acc, st, [], ha => by
    have e : scan k acc st [] = endOf acc st := by cases k <;> rfl
    rw [e]
    cases st with
    | out => exact ha
    | atom w => exact okTok_add ha (fun e => by cases e)
    | quot w b => intro t ht; cases ht
    | comm d b => intro t ht; cases ht
  | 0, acc, st, c :: l, ha => by intro t ht; cases ht
  | k + 1, acc, st, c :: l, ha => by
    rw [scan]
    cases hs : step acc st c l with
    | inr e => intro t ht; cases ht
    | inl x =>
      obtain ⟨a, t, r⟩ := x
      exact scan_ok k a t r (step_ok hs ha)
/-! Layer 14: boxes, by one machine over tokens. -/
abbrev BoxL := Bytes × Bytes × Bytes
abbrev StL := (List Tok × List BoxL) × Int
def stopB (c : UInt8) : Bool := c == 44 || (c == 59 || (c == 58 || (c == 60 || c == 62)))
def stopT (t : Tok) : Bool := t.1 == 3 && (match t.2 with | [c] => stopB c | _ => false)
def nonT (t : Tok) : Bool := !stopT t
def nameL (l : List Tok) : Bytes := Lib.join ((l.takeWhile wordT).map (·.2)) [32]
def failM (e : Int) : StL := (([], []), e)
def addressM (nm : Bytes) (l : List Tok) (bx : List BoxL) : StL :=
 if (ofT (l.takeWhile nonT)).2.2 ≠ 0 then failM (ofT (l.takeWhile nonT)).2.2
 else if bx.length = 100 then failM 8
 else ((l.dropWhile nonT, bx ++ [(nm, bs (ofT (l.takeWhile nonT)).1, bs (ofT (l.takeWhile nonT)).2.1)]), 0)
def angleM (x : StL) : StL := if x.2 ≠ 0 then x else if headIs x.1.1 [62] = true then ((x.1.1.tail, x.1.2), 0) else failM 130
def mailboxM (l : List Tok) (bx : List BoxL) : StL :=
 if headIs (l.dropWhile wordT) [60] = true then angleM (addressM (nameL l) (l.dropWhile wordT).tail bx) else addressM [] l bx
def groupM : Nat → List Tok → List BoxL → StL
 | 0, _, _ => failM 130
 | k + 1, l, bx => if headIs l [59] = true then ((l.tail, bx), 0)
  else if (mailboxM l bx).2 ≠ 0 then mailboxM l bx
  else if headIs (mailboxM l bx).1.1 [59] = true then groupM k (mailboxM l bx).1.1 (mailboxM l bx).1.2
  else if headIs (mailboxM l bx).1.1 [44] = true ∧ headIs (mailboxM l bx).1.1.tail [59] = false then groupM k (mailboxM l bx).1.1.tail (mailboxM l bx).1.2
  else failM 130
def itemM (l : List Tok) (bx : List BoxL) : StL :=
 if l.takeWhile wordT ≠ [] ∧ headIs (l.dropWhile wordT) [58] = true then groupM ((l.dropWhile wordT).tail.length + 1) (l.dropWhile wordT).tail bx else mailboxM l bx
def readM : Nat → List Tok → List BoxL → List BoxL × Int
 | 0, _, _ => ([], 130)
 | k + 1, l, bx => if (itemM l bx).2 ≠ 0 then ([], (itemM l bx).2)
  else if (itemM l bx).1.1 = [] then ((itemM l bx).1.2, 0)
  else if headIs (itemM l bx).1.1 [44] = true then readM k (itemM l bx).1.1.tail (itemM l bx).1.2
  else ([], 130)
def readT (l : List Tok) : List BoxL × Int := readM (l.length + 1) l []
def readL (s : Bytes) : List BoxL × Int := if (scanL [] .out s).2 ≠ 0 then ([], (scanL [] .out s).2) else readT (scanL [] .out s).1
/-! what stands behind -/
def sepC (m : List Tok) : Prop := m = [] ∨ ∃ c y, m = (3, [c]) :: y ∧ (c = 44 ∨ c = 59)
def sepM (m : List Tok) : Prop := m = [] ∨ ∃ y, m = (3, [44]) :: y
theorem sepM.c {m : List Tok} (h : sepM m) : sepC m := by
 rcases h with h | ⟨y, h⟩
 ·exact .inl h
 exact .inr ⟨44, y, h, .inl rfl⟩
theorem span_app {α : Type} (p : α → Bool) (m : List α) (hm : m = [] ∨ ∃ t r, m = t :: r ∧ p t = false) : ∀ l : List α, (l ++ m).takeWhile p = l.takeWhile p ∧ (l ++ m).dropWhile p = l.dropWhile p ++ m
 | [] => by
  rcases hm with rfl | ⟨t, r, rfl, h⟩
  ·exact ⟨rfl, rfl⟩
  simp [List.takeWhile, List.dropWhile, h]
 | x :: l => by
  obtain ⟨h1, h2⟩ := span_app p m hm l
  rw [List.cons_append, List.takeWhile_cons, List.takeWhile_cons, List.dropWhile_cons, List.dropWhile_cons, h1, h2]
  cases p x <;> simp
theorem sepC_non {m : List Tok} (h : sepC m) : m = [] ∨ ∃ t r, m = t :: r ∧ nonT t = false := by
 rcases h with h | ⟨c, y, h, hc⟩
 ·exact .inl h
 refine .inr ⟨_, _, h, ?_⟩
 rcases hc with rfl | rfl <;> rfl
theorem sepC_word {m : List Tok} (h : sepC m) : m = [] ∨ ∃ t r, m = t :: r ∧ wordT t = false := by
 rcases h with h | ⟨c, y, h, hc⟩
 ·exact .inl h
 exact .inr ⟨_, _, h, rfl⟩
theorem headIs_sep {m : List Tok} (h : sepC m) (c : UInt8) (h1 : c ≠ 44) (h2 : c ≠ 59) : headIs m [c] = false := by
 rcases h with rfl | ⟨d, y, rfl, hd⟩
 ·rfl
 show isT (3, [d]) [c] = false
 unfold isT
 rcases hd with rfl | rfl
 ·simp [Ne.symm h1]
 simp [Ne.symm h2]
theorem headIs_app {m : List Tok} (h : sepC m) (c : UInt8) (h1 : c ≠ 44) (h2 : c ≠ 59) (l : List Tok) : headIs (l ++ m) [c] = headIs l [c] := by
 cases l with
 | nil => exact headIs_sep h c h1 h2
 | cons t l => rfl
theorem headIs_appM {m : List Tok} (h : sepM m) (c : UInt8) (h1 : c ≠ 44) (l : List Tok) : headIs (l ++ m) [c] = headIs l [c] := by
 cases l with
 | nil =>
  rcases h with rfl | ⟨y, rfl⟩
  ·rfl
  show isT (3, [44]) [c] = headIs [] [c]
  simp [isT, headIs, Ne.symm h1]
 | cons t l => rfl
theorem headIs_ne {l : List Tok} {s : Bytes} (h : headIs l s = true) : ∃ t r, l = t :: r ∧ isT t s = true := by
 cases l with
 | nil => cases h
 | cons t r => exact ⟨t, r, rfl, h⟩
theorem address_more {nm : Bytes} {l l' : List Tok} {bx bx' : List BoxL} (h : addressM nm l bx = ((l', bx'), 0)) :
  ∃ x : BoxL, bx' = bx ++ [x] ∧ l'.length < l.length ∧ ∀ (m : List Tok) (b : List BoxL), sepC m → b.length < 100 → addressM nm (l ++ m) b = ((l' ++ m, b ++ [x]), 0) := by
 unfold addressM at h
 by_cases h0 : (ofT (l.takeWhile nonT)).2.2 ≠ 0
 ·rw [if_pos h0] at h; exact absurd (show (ofT (l.takeWhile nonT)).2.2 = 0 from congrArg Prod.snd h) h0
 rw [if_neg h0] at h
 by_cases h1 : bx.length = 100
 ·rw [if_pos h1] at h; cases h
 rw [if_neg h1] at h
 cases h
 refine ⟨_, rfl, ?_, fun m b hm hb => ?_⟩
 ·cases l with
  | nil => exact absurd (show (ofT (List.takeWhile nonT [])).2.2 ≠ 0 by decide) h0
  | cons t r =>
   rw [List.takeWhile_cons] at h0
   rw [List.dropWhile_cons]
   cases ht : nonT t with
   | false => rw [ht] at h0; exact absurd (show (ofT []).2.2 ≠ 0 by decide) h0
   | true => simp only [if_true, List.length_cons]; have := (List.dropWhile_suffix nonT (l := r)).length_le; omega
 obtain ⟨e1, e2⟩ := span_app nonT m (sepC_non hm) l
 unfold addressM
 rw [e1, e2, if_neg h0, if_neg (by omega)]
theorem mailbox_more {l l' : List Tok} {bx bx' : List BoxL} (h : mailboxM l bx = ((l', bx'), 0)) :
  ∃ x : BoxL, bx' = bx ++ [x] ∧ l'.length < l.length ∧ ∀ (m : List Tok) (b : List BoxL), sepC m → b.length < 100 → mailboxM (l ++ m) b = ((l' ++ m, b ++ [x]), 0) := by
 unfold mailboxM at h
 by_cases h0 : headIs (l.dropWhile wordT) [60] = true
 ·rw [if_pos h0] at h
  unfold angleM at h
  obtain ⟨t, r, hr, ht⟩ := headIs_ne h0
  rw [hr, List.tail_cons] at h
  obtain ⟨⟨⟨la, ba⟩, ea⟩, hA⟩ : ∃ x, addressM (nameL l) r bx = x := ⟨_, rfl⟩
  rw [hA] at h
  by_cases h1 : ea ≠ 0
  ·rw [if_pos h1] at h; cases h; exact absurd rfl h1
  rw [if_neg h1] at h
  have h1' : ea = 0 := by simpa using h1
  subst h1'
  by_cases h2 : headIs la [62] = true
  ·rw [if_pos h2] at h
   cases h
   obtain ⟨x, rfl, hlt, hm⟩ := address_more hA
   obtain ⟨t2, r2, hr2, ht2⟩ := headIs_ne h2
   have hlen : (l.dropWhile wordT).length ≤ l.length := (List.dropWhile_suffix wordT (l := l)).length_le
   rw [hr, List.length_cons] at hlen
   refine ⟨x, rfl, by show la.tail.length < l.length; rw [List.length_tail]; omega, fun m b hs hb => ?_⟩
   obtain ⟨e1, e2⟩ := span_app wordT m (sepC_word hs) l
   unfold mailboxM
   rw [e2, headIs_app hs 60 (by decide) (by decide), if_pos h0, hr, List.cons_append, List.tail_cons, show nameL (l ++ m) = nameL l by unfold nameL; rw [e1], hm m b hs hb]
   unfold angleM
   rw [if_neg (by simp), headIs_app hs 62 (by decide) (by decide), if_pos h2, hr2]
   rfl
  rw [if_neg h2] at h; cases h
 rw [if_neg h0] at h
 obtain ⟨x, rfl, hlt, hm⟩ := address_more h
 refine ⟨x, rfl, hlt, fun m b hs hb => ?_⟩
 obtain ⟨e1, e2⟩ := span_app wordT m (sepC_word hs) l
 unfold mailboxM
 rw [e2, headIs_app hs 60 (by decide) (by decide), if_neg h0]
 exact hm m b hs hb
theorem group_more : ∀ (k : Nat) {l l' : List Tok} {bx bx' : List BoxL}, groupM k l bx = ((l', bx'), 0) →
  ∃ d : List BoxL, bx' = bx ++ d ∧ l'.length < l.length ∧ ∀ (k' : Nat) (m : List Tok) (b : List BoxL), sepM m → l.length < k' → b.length + d.length ≤ 100 → groupM k' (l ++ m) b = ((l' ++ m, b ++ d), 0)
 | 0, l, l', bx, bx', h => by cases h
 | k + 1, l, l', bx, bx', h => by
  rw [groupM] at h
  by_cases c1 : headIs l [59] = true
  ·rw [if_pos c1] at h
   cases h
   obtain ⟨t, r, rfl, ht⟩ := headIs_ne c1
   refine ⟨[], by simp, by simp, fun k' m b hs hk hb => ?_⟩
   obtain ⟨k', rfl⟩ : ∃ j, k' = j + 1 := ⟨k' - 1, by omega⟩
   rw [groupM, if_pos (show headIs (t :: r ++ m) [59] = true from c1)]
   simp
  rw [if_neg c1] at h
  obtain ⟨⟨⟨l1, b1⟩, e1⟩, hA⟩ : ∃ x, mailboxM l bx = x := ⟨_, rfl⟩
  rw [hA] at h
  by_cases c2 : e1 ≠ 0
  ·rw [if_pos c2] at h; cases h; exact absurd rfl c2
  rw [if_neg c2] at h
  have c2' : e1 = 0 := by simpa using c2
  subst c2'
  obtain ⟨x, rfl, hlt, hm⟩ := mailbox_more hA
  simp only [] at h
  by_cases c3 : headIs l1 [59] = true
  ·rw [if_pos c3] at h
   obtain ⟨d, rfl, hl2, hg⟩ := group_more k h
   refine ⟨x :: d, by simp, by omega, fun k' m b hs hk hb => ?_⟩
   simp only [List.length_cons] at hb
   obtain ⟨k', rfl⟩ : ∃ j, k' = j + 1 := ⟨k' - 1, by omega⟩
   rw [groupM, headIs_appM hs 59 (by decide), if_neg c1, hm m b hs.c (by omega)]
   simp only []
   rw [if_neg (by simp), headIs_appM hs 59 (by decide), if_pos c3, hg k' m _ hs (by omega) (by rw [List.length_append, List.length_singleton]; omega)]
   simp
  rw [if_neg c3] at h
  by_cases c4 : headIs l1 [44] = true ∧ headIs l1.tail [59] = false
  ·rw [if_pos c4] at h
   obtain ⟨t, r, rfl, ht⟩ := headIs_ne c4.1
   obtain ⟨d, rfl, hl2, hg⟩ := group_more k h
   simp only [List.tail_cons, List.length_cons] at hl2 c4 hlt hg
   refine ⟨x :: d, by simp, by omega, fun k' m b hs hk hb => ?_⟩
   simp only [List.length_cons] at hb
   obtain ⟨k', rfl⟩ : ∃ j, k' = j + 1 := ⟨k' - 1, by omega⟩
   rw [groupM, headIs_appM hs 59 (by decide), if_neg c1, hm m b hs.c (by omega)]
   refine (if_neg (by simp)).trans ((if_neg (show ¬ headIs (t :: (r ++ m)) [59] = true from c3)).trans ((if_pos (show headIs (t :: (r ++ m)) [44] = true ∧ headIs (r ++ m) [59] = false from ⟨c4.1, by rw [headIs_appM hs 59 (by decide)]; exact c4.2⟩)).trans ?_))
   show groupM k' (r ++ m) (b ++ [x]) = _
   rw [hg k' m _ hs (by omega) (by rw [List.length_append, List.length_singleton]; omega)]
   simp
  rw [if_neg c4] at h; cases h
theorem item_more {l l' : List Tok} {bx bx' : List BoxL} (h : itemM l bx = ((l', bx'), 0)) :
  ∃ d : List BoxL, bx' = bx ++ d ∧ l'.length < l.length ∧ ∀ (m : List Tok) (b : List BoxL), sepM m → b.length + d.length ≤ 100 → itemM (l ++ m) b = ((l' ++ m, b ++ d), 0) := by
 unfold itemM at h
 by_cases c1 : l.takeWhile wordT ≠ [] ∧ headIs (l.dropWhile wordT) [58] = true
 ·rw [if_pos c1] at h
  obtain ⟨t, r, hr, ht⟩ := headIs_ne c1.2
  rw [hr, List.tail_cons] at h
  obtain ⟨d, rfl, hl, hg⟩ := group_more _ h
  have hlen : (l.dropWhile wordT).length ≤ l.length := (List.dropWhile_suffix wordT (l := l)).length_le
  rw [hr, List.length_cons] at hlen
  refine ⟨d, rfl, by omega, fun m b hs hb => ?_⟩
  obtain ⟨e1, e2⟩ := span_app wordT m (sepC_word hs.c) l
  unfold itemM
  rw [e1, e2, headIs_appM hs 58 (by decide), if_pos c1, hr, List.cons_append, List.tail_cons]
  exact hg _ m b hs (by rw [List.length_append]; omega) hb
 rw [if_neg c1] at h
 obtain ⟨x, rfl, hlt, hm⟩ := mailbox_more h
 refine ⟨[x], rfl, hlt, fun m b hs hb => ?_⟩
 obtain ⟨e1, e2⟩ := span_app wordT m (sepC_word hs.c) l
 unfold itemM
 rw [e1, e2, headIs_appM hs 58 (by decide), if_neg c1]
 exact hm m b hs.c (by simp only [List.length_cons, List.length_nil] at hb; omega)
/-! Layer 14: what is shown is read again. -/
def goodB (x : BoxL) : Prop := x.1.all text = true ∧ right (str x.2.1) (str x.2.2) = true
theorem join_one (p s : Bytes) : Lib.join [p] s = p := by simp [Lib.join, List.intercalate]
theorem join_cons2 (p q : Bytes) (r : List Bytes) (s : Bytes) : Lib.join (p :: q :: r) s = p ++ s ++ Lib.join (q :: r) s := by simp [Lib.join, List.intercalate]
theorem join_nil (s : Bytes) : Lib.join [] s = [] := by simp [Lib.join, List.intercalate]
/-! the tokens of a box -/
theorem span_all {α : Type} (p : α → Bool) (m : List α) (hm : m = [] ∨ ∃ t r, m = t :: r ∧ p t = false) (l : List α) (h : ∀ t ∈ l, p t = true) : (l ++ m).takeWhile p = l ∧ (l ++ m).dropWhile p = m := by
 obtain ⟨h1, h2⟩ := span_app p m hm l
 have e1 : l.takeWhile p = l := by
  clear h1 h2
  induction l with
  | nil => rfl
  | cons x l ih => rw [List.takeWhile_cons, h x (by simp)]; simp only [if_true]; rw [ih (fun t ht => h t (by simp [ht]))]
 have e2 : l.dropWhile p = [] := by
  clear h1 h2
  induction l with
  | nil => rfl
  | cons x l ih => rw [List.dropWhile_cons, h x (by simp)]; simp only [if_true]; exact ih (fun t ht => h t (by simp [ht])) (by rw [List.takeWhile_cons, h x (by simp)] at e1; simpa using e1)
 rw [h1, h2, e1, e2]
 exact ⟨rfl, rfl⟩
/-! shown and read -/
/-! what is read is good -/
theorem ofT_right {l : List Tok} (h : (ofT l).2.2 = 0) : right (ofT l).1 (ofT l).2.1 = true := by
 unfold ofT at h ⊢
 cases hs : atSplit l with
 | none => rw [hs] at h; simp [noAddr] at h
 | some x =>
  obtain ⟨A, B⟩ := x
  rw [hs] at h
  simp only [] at h ⊢
  by_cases ho : altOk wordT A = true ∧ altOk atomT B = true
  ·rw [if_pos ho] at h ⊢
   exact finish_right h
  rw [if_neg ho] at h
  simp [noAddr] at h
def goodS (s : List Tok × List BoxL) : Prop := allT s.1 ∧ ∀ x ∈ s.2, goodB x
theorem allT_sub {l m : List Tok} (h : allT l) (hs : m ⊆ l) : allT m := fun t ht => h t (hs ht)
theorem nameL_text {l : List Tok} (h : allT l) : (nameL l).all text = true := by
 unfold nameL
 have hk : ∀ ps : List Bytes, (∀ p ∈ ps, p.all text = true) → (Lib.join ps [32]).all text = true := by
  intro ps
  induction ps with
  | nil => intro _; rw [join_nil]; rfl
  | cons p r ih =>
   intro hp
   cases r with
   | nil => rw [join_one]; exact hp p (by simp)
   | cons q r =>
    rw [join_cons2, List.all_append, List.all_append, hp p (by simp), ih (fun z hz => hp z (by simp at hz ⊢; exact .inr hz))]
    decide +kernel
 refine hk _ (fun p hp => ?_)
 obtain ⟨t, ht, rfl⟩ := List.mem_map.1 hp
 exact h t ((List.takeWhile_prefix _).subset ht)
theorem address_good {nm : Bytes} {l : List Tok} {bx : List BoxL} {s : List Tok × List BoxL} (hn : nm.all text = true) (hl : allT l) (hb : ∀ x ∈ bx, goodB x) (h : addressM nm l bx = (s, 0)) : goodS s := by
 unfold addressM at h
 by_cases h0 : (ofT (l.takeWhile nonT)).2.2 ≠ 0
 ·rw [if_pos h0] at h; exact absurd (show (ofT (l.takeWhile nonT)).2.2 = 0 from congrArg Prod.snd h) h0
 rw [if_neg h0] at h
 by_cases h1 : bx.length = 100
 ·rw [if_pos h1] at h; cases h
 rw [if_neg h1] at h
 cases h
 refine ⟨allT_sub hl (List.dropWhile_suffix _).subset, fun x hx => ?_⟩
 rcases List.mem_append.1 hx with hx | hx
 ·exact hb x hx
 rw [List.mem_singleton.1 hx]
 exact ⟨hn, by simp only []; rw [str_bs, str_bs]; exact ofT_right (by simpa using h0)⟩
theorem mailbox_good {l : List Tok} {bx : List BoxL} {s : List Tok × List BoxL} (hl : allT l) (hb : ∀ x ∈ bx, goodB x) (h : mailboxM l bx = (s, 0)) : goodS s := by
 unfold mailboxM at h
 by_cases h0 : headIs (l.dropWhile wordT) [60] = true
 ·rw [if_pos h0] at h
  unfold angleM at h
  have hd : allT (l.dropWhile wordT).tail := allT_sub hl (fun t ht => (List.dropWhile_suffix _).subset (List.mem_of_mem_tail ht))
  obtain ⟨⟨la, ea⟩, hA⟩ : ∃ x, addressM (nameL l) (l.dropWhile wordT).tail bx = x := ⟨_, rfl⟩
  rw [hA] at h
  by_cases h1 : ea ≠ 0
  ·rw [if_pos h1] at h; cases h; exact absurd rfl h1
  rw [if_neg h1] at h
  have h1' : ea = 0 := by simpa using h1
  subst h1'
  have hg := address_good (nameL_text hl) hd hb hA
  by_cases h2 : headIs la.1 [62] = true
  ·rw [if_pos h2] at h; cases h
   exact ⟨allT_sub hg.1 (fun t ht => List.mem_of_mem_tail ht), hg.2⟩
  rw [if_neg h2] at h; cases h
 rw [if_neg h0] at h
 exact address_good rfl hl hb h
theorem group_good : ∀ (k : Nat) {l : List Tok} {bx : List BoxL} {s : List Tok × List BoxL}, allT l → (∀ x ∈ bx, goodB x) → groupM k l bx = (s, 0) → goodS s
 | 0, l, bx, s, hl, hb, h => by cases h
 | k + 1, l, bx, s, hl, hb, h => by
  rw [groupM] at h
  by_cases c1 : headIs l [59] = true
  ·rw [if_pos c1] at h; cases h
   exact ⟨allT_sub hl (fun t ht => List.mem_of_mem_tail ht), hb⟩
  rw [if_neg c1] at h
  obtain ⟨⟨s1, e1⟩, hA⟩ : ∃ x, mailboxM l bx = x := ⟨_, rfl⟩
  rw [hA] at h
  by_cases c2 : e1 ≠ 0
  ·rw [if_pos c2] at h; cases h; exact absurd rfl c2
  rw [if_neg c2] at h
  have c2' : e1 = 0 := by simpa using c2
  subst c2'
  have hg := mailbox_good hl hb hA
  by_cases c3 : headIs s1.1 [59] = true
  ·rw [if_pos c3] at h; exact group_good k hg.1 hg.2 h
  rw [if_neg c3] at h
  by_cases c4 : headIs s1.1 [44] = true ∧ headIs s1.1.tail [59] = false
  ·rw [if_pos c4] at h
   exact group_good k (allT_sub hg.1 (fun t ht => List.mem_of_mem_tail ht)) hg.2 h
  rw [if_neg c4] at h; cases h
theorem item_good {l : List Tok} {bx : List BoxL} {s : List Tok × List BoxL} (hl : allT l) (hb : ∀ x ∈ bx, goodB x) (h : itemM l bx = (s, 0)) : goodS s := by
 unfold itemM at h
 by_cases c1 : l.takeWhile wordT ≠ [] ∧ headIs (l.dropWhile wordT) [58] = true
 ·rw [if_pos c1] at h
  exact group_good _ (allT_sub hl (fun t ht => (List.dropWhile_suffix _).subset (List.mem_of_mem_tail ht))) hb h
 rw [if_neg c1] at h
 exact mailbox_good hl hb h
theorem read_good : ∀ (k : Nat) {l : List Tok} {bx r : List BoxL}, allT l → (∀ x ∈ bx, goodB x) → readM k l bx = (r, 0) → (∀ x ∈ r, goodB x)
 | 0, l, bx, r, hl, hb, h => by cases h
 | k + 1, l, bx, r, hl, hb, h => by
  rw [readM] at h
  obtain ⟨⟨s1, e1⟩, hA⟩ : ∃ x, itemM l bx = x := ⟨_, rfl⟩
  rw [hA] at h
  by_cases c2 : e1 ≠ 0
  ·rw [if_pos c2] at h; simp only [Prod.mk.injEq] at h; exact absurd h.2 c2
  rw [if_neg c2] at h
  have c2' : e1 = 0 := by simpa using c2
  subst c2'
  have hg := item_good hl hb hA
  by_cases c3 : s1.1 = []
  ·rw [if_pos c3] at h; cases h; exact hg.2
  rw [if_neg c3] at h
  by_cases c4 : headIs s1.1 [44] = true
  ·rw [if_pos c4] at h
   exact read_good k (allT_sub hg.1 (fun t ht => List.mem_of_mem_tail ht)) hg.2 h
  rw [if_neg c4] at h; cases h
/-! how many there are -/
theorem readL_good {s : Bytes} {r : List BoxL} (h : readL s = (r, 0)) : ∀ x ∈ r, goodB x := by
 unfold readL at h
 by_cases c : (scanL [] .out s).2 ≠ 0
 ·rw [if_pos c] at h; simp only [Prod.mk.injEq] at h; exact absurd h.2 c
 rw [if_neg c] at h
 exact read_good _ (scan_text _ [] .out s (fun t ht => by cases ht) rfl) (fun x hx => by cases hx) h
/-! Layer 14: so many addresses. -/
/-! Layer 19: what the laws call. -/
theorem decode_is (s : ByteArray) (hs : s.size ≤ 1000000000) : ew_Decode.f s = some (str (decodeL (bs s))) := by
 unfold ew_Decode.f
 rw [if_pos hs]
theorem decL_len : ∀ (f : Nat) (l acc : Bytes), (decL f l acc).length ≤ acc.length + 300 * l.length
 | 0, l, acc => by rw [decL]; omega
 | f + 1, [], acc => by rw [decL]; omega
 | f + 1, c :: r, acc => by
  rw [decL]
  cases hw : wordL (c :: r) with
  | none =>
   have := decL_len f r (acc ++ [c])
   simp at this ⊢
   omega
  | some y =>
   obtain ⟨x, n⟩ := y
   simp only []
   obtain ⟨_, _, hn, _, hn2, _⟩ := wordL_some hw
   have hx := wordL_len hw
   have hd : ((c :: r).drop n).length = (c :: r).length - n := List.length_drop
   split
   ·have := decL_len f (trimB ((c :: r).drop n)) (acc ++ x)
    have ht := trimB_len ((c :: r).drop n)
    rw [List.length_append] at this
    omega
   have := decL_len f ((c :: r).drop n) (acc ++ x)
   rw [List.length_append] at this
   omega
theorem decodeL_len (l : Bytes) : (decodeL l).length ≤ 300 * l.length := by
 have := decL_len l.length l []
 simpa [decodeL] using this
/-! Layer 36: a subject with a list's tag. -/
def saysL (s : Bytes) : Bytes := clean (str (decodeL s))
theorem saysL_len (s : Bytes) : (saysL s).length ≤ 1200 * s.length := by
 have h1 := decodeL_len s
 have h2 := clean_length (str (decodeL s))
 rw [str_size] at h2
 unfold saysL
 omega
/-! Texts of good signs none of which is a control. -/
def gd (r : Nat) : Prop := okR r ∧ control r = false
def G (l : Bytes) : Prop := ∃ rs, (∀ r ∈ rs, gd r) ∧ l = enc rs
end Go.Proofs.YtcndmhpeolbepaaGreatDoor.Pl
namespace Go.Proofs.YtcndmhpeolbepaaGreatDoor.Fn
attribute [local go_sem high] eqA194
/-! Layer 14: the reader, in memory: its block is the newest of W0; the tokens are W0's; the boxes are its own. -/
def toBox (x : Pl.BoxL) : S91 := ⟨Pl.str x.1, ⟨Pl.str x.2.1, Pl.str x.2.2⟩⟩
structure Small (l : List Pl.Tok) : Prop where
 len : l.length ≤ 50000
 sum : (Pl.cat l).length ≤ 50000
 ok : ∀ t ∈ l, Pl.okTok t
structure RS (W0 w : World) (l : List Pl.Tok) (bx : List Pl.BoxL) : Prop where
 out : ∃ (A : Option Addr) (c : Nat) (v : Value), w.heap[W0.heap.size]? = some (.cells #[.slice A l.length c, v] 178 (0, 0)) ∧ Kd.C k194 W0 A l.length (l.map Pl.tok142) ∧ l.length ≤ c ∧ Kd.R k91 91 w (W0.heap.size + 1) (fun _ => True) v (bx.map toBox)
 below : Below W0.heap.size W0 w
 small : Small l
 many : bx.length ≤ 100
 glob : Glob W0
theorem RS.lt {W0 w : World} {l : List Pl.Tok} {bx : List Pl.BoxL} (h : RS W0 w l bx) : W0.heap.size < w.heap.size := by
 obtain ⟨A, c, v, hb, _⟩ := h.out
 exact blk_lt hb
theorem RS.keep {W0 w w' : World} {l : List Pl.Tok} {bx : List Pl.BoxL} (h : RS W0 w l bx) (hb : Below w.heap.size w w') : RS W0 w' l bx := by
 obtain ⟨⟨A, c, v, h1, h2, h3, h4⟩, h5, h6, h7, h8⟩ := h
 exact ⟨⟨A, c, v, (hb.block _ (blk_lt h1)).trans h1, h2, h3, Kd.R_below h4 hb⟩, h5.trans (hb.mono h5.size), h6, h7, h8⟩
theorem RS.globw {W0 w : World} {l : List Pl.Tok} {bx : List Pl.BoxL} (h : RS W0 w l bx) : Glob w := h.glob.below h.below
theorem tok_cell {W0 w : World} {A : Option Addr} {l : List Pl.Tok} (h : Kd.C k194 W0 A l.length (l.map Pl.tok142)) (hB : Below W0.heap.size W0 w) {i : Nat} {t : Pl.Tok} {r : List Pl.Tok} (hd : l.drop i = t :: r) :
  ∃ ad, A = some ad ∧ w.cell? (ad.add (i * 2)) = some (.int .i64 t.1) ∧ w.cell? ⟨(ad.add (i * 2)).block, (ad.add (i * 2)).off + 1, none⟩ = some (.string (Pl.str t.2)) := by
 have hi : i < l.length := by
  rcases Nat.lt_or_ge i l.length with h' | h'
  ·exact h'
  rw [List.drop_of_length_le h'] at hd; cases hd
 obtain ⟨ad, e, h0, h1⟩ := at_T194 h (i : Int) (by omega) (by omega)
 have hr : rd_T194 (l.map Pl.tok142) (i : Int) = Pl.tok142 t := by
  unfold rd_T194
  have h3 : l[i]? = some t := by
   have := congrArg List.head? hd
   rw [List.head?_drop] at this
   exact this
  rw [Int.toNat_natCast, List.getD_eq_getElem?_getD, List.getElem?_map, h3]
  rfl
 rw [hr] at h0 h1
 rw [Int.toNat_natCast] at h0 h1
 exact ⟨ad, e, pw_cell_below hB h0, pw_cell_below hB h1⟩
set_option maxHeartbeats 4000000 in
set_option maxRecDepth 100000 in
theorem at_calls (W0 w : World) (l : List Pl.Tok) (bx : List Pl.BoxL) (s : ByteArray) (h : RS W0 w l bx) :
  Calls Tryz.prog 186 #[.pointer (some ⟨W0.heap.size, 0, none⟩), .string s] w fun e w' => e = .returned (.bool (Pl.headIs l (Pl.bs s))) ∧ w' = w := by
 obtain ⟨⟨A, c, v, hb, hC, hc, hR⟩, hB, hS, hM, hG⟩ := h
 have hu := Tryz.underlying194
 have hc0 : w.cell? ⟨W0.heap.size, 0, none⟩ = some (.slice A l.length c) := (blk_cell hb 0).trans rfl
 cases l with
 | nil =>
  clear hb hC hR hB hS hM hG
  generalize W0.heap.size = R at hc0 ⊢
  go_enter Tryz.func186, Tryz.ntmps186
  go_wp2
  go_ret
  exact ⟨rfl, rfl⟩
 | cons t r =>
  obtain ⟨ad, rfl, h0, h1⟩ := tok_cell hC hB (i := 0) (t := t) (r := r) rfl
  rw [Nat.zero_mul, Addr.add_zero'] at h0 h1
  clear hb hC hR hB hS hM hG
  generalize W0.heap.size = R at hc0 ⊢
  have c1 : decide ((0 : Int) < ((t :: r).length : Int)) = true := decide_eq_true (by simp only [List.length_cons]; omega)
  have c2 : ((0 : Int) < ((t :: r).length : Int)) = True := eq_true (by simp only [List.length_cons]; omega)
  have c3 : (0 < (t :: r).length) = True := eq_true (by simp)
  generalize (t :: r).length = n at hc0 hc c1 c2 c3 ⊢
  have hres : Pl.headIs (t :: r) (Pl.bs s) = (t.1 == 3 && ((Pl.str t.2).toList == s.toList)) := by
   show Pl.isT t (Pl.bs s) = _
   unfold Pl.isT
   rw [Pl.toList_str, Pl.toList_bs]
  rw [hres]
  go_enter Tryz.func186, Tryz.ntmps186
  go_wp2
  go_ret
  exact ⟨rfl, rfl⟩
theorem RS.cut {W0 w : World} {l : List Pl.Tok} {bx : List Pl.BoxL} {A : Option Addr} {c : Nat} {v : Value} (hb : w.heap[W0.heap.size]? = some (.cells #[.slice A l.length c, v] 178 (0, 0))) (hC : Kd.C k194 W0 A l.length (l.map Pl.tok142)) (hc : l.length ≤ c) (hR : Kd.R k91 91 w (W0.heap.size + 1) (fun _ => True) v (bx.map toBox))
  (hB : Below W0.heap.size W0 w) (hS : Small l) (hM : bx.length ≤ 100) (hG : Glob W0) (m : Nat) (hm : m ≤ l.length) (A' : Option Addr) (n' c' : Nat) (hA : A' = if c = m then A else A.map (·.add (m * 2))) (hn : n' = l.length - m) (hc' : c' = c - m) :
  RS W0 (w.setCell ⟨W0.heap.size, 0, none⟩ (.slice A' n' c')) (l.drop m) bx := by
 subst hA hn hc'
 have h1 := Kd.C_drop (c := c) (m := m) (show Kd.C k194 W0 A (l.map Pl.tok142).length (l.map Pl.tok142) by rw [List.length_map]; exact hC) (by rw [List.length_map]; exact hm) (by rw [List.length_map]; exact hc)
 rw [← List.map_drop, List.length_map] at h1
 refine ⟨⟨_, c - m, v, ?_, h1, by rw [List.length_drop]; omega, ?_⟩, hB.setCell (p := ⟨W0.heap.size, 0, none⟩) (Nat.le_refl _) _, ⟨?_, ?_, ?_⟩, hM, hG⟩
 ·have := blk_put hb 0 (.slice (if c = m then A else A.map (·.add (m * 2))) (l.length - m) (c - m)) rfl
  rw [List.length_drop]
  exact this
 ·exact Kd.R_mono (Kd.R_far (p := ⟨W0.heap.size, 0, none⟩) (Kd.R_bound hR) (fun k hk => by show k ≠ W0.heap.size; have := hk.2.1; omega) _) (fun _ _ => trivial)
 ·have := hS.len
  rw [List.length_drop]; omega
 ·have h2 := hS.sum
  have h3 : Pl.cat l = Pl.cat (l.take m) ++ Pl.cat (l.drop m) := by rw [← Pl.cat_app, List.take_append_drop]
  rw [h3, List.length_append] at h2
  omega
 exact fun t ht => hS.ok t (List.mem_of_mem_drop ht)
set_option maxHeartbeats 4000000 in
set_option maxRecDepth 100000 in
theorem follows_calls (W0 w : World) (l : List Pl.Tok) (bx : List Pl.BoxL) (n : Nat) (s : ByteArray) (h : RS W0 w l bx) :
  Calls Tryz.prog 183 #[.pointer (some ⟨W0.heap.size, 0, none⟩), .int .i64 n, .string s] w fun e w' => e = .returned (.bool (Pl.headIs (l.drop n) (Pl.bs s))) ∧ w' = w := by
 obtain ⟨⟨A, c, v, hb, hC, hc, hR⟩, hB, hS, hM, hG⟩ := h
 have hu := Tryz.underlying194
 have hc0 : w.cell? ⟨W0.heap.size, 0, none⟩ = some (.slice A l.length c) := (blk_cell hb 0).trans rfl
 cases hd : l.drop n with
 | nil =>
  have hl : l.length ≤ n := by
   have := congrArg List.length hd
   rw [List.length_drop, List.length_nil] at this
   omega
  have c1 : decide ((n : Int) < (l.length : Int)) = false := decide_eq_false (by omega)
  have c2 : decide (n < l.length) = false := decide_eq_false (by omega)
  clear hb hC hR hB hS hM hG hl
  generalize W0.heap.size = R at hc0 ⊢
  generalize l.length = ln at hc0 c1 c2 ⊢
  go_enter Tryz.func183, Tryz.ntmps183
  go_wp2
  go_ret
  exact ⟨rfl, rfl⟩
 | cons t r =>
  obtain ⟨ad, rfl, h0, h1⟩ := tok_cell hC hB hd
  have hl : n < l.length := by
   have := congrArg List.length hd
   rw [List.length_drop, List.length_cons] at this
   omega
  clear hb hC hR hB hM hG
  have hz := hS.len
  have c1 : decide ((n : Int) < (l.length : Int)) = true := decide_eq_true (by omega)
  have c2 : ((n : Int) < (l.length : Int)) = True := eq_true (by omega)
  have c3 : (n < l.length) = True := eq_true (by omega)
  have c4 : decide (n < l.length) = true := decide_eq_true (by omega)
  have c5 : ((0 : Int) ≤ (n : Int)) = True := eq_true (by omega)
  clear hS hz
  generalize W0.heap.size = R at hc0 ⊢
  generalize l.length = ln at hc0 hc hl c1 c2 c3 c4 ⊢
  have hres : Pl.headIs (t :: r) (Pl.bs s) = (t.1 == 3 && ((Pl.str t.2).toList == s.toList)) := by
   show Pl.isT t (Pl.bs s) = _
   unfold Pl.isT
   rw [Pl.toList_str, Pl.toList_bs]
  rw [hres]
  go_enter Tryz.func183, Tryz.ntmps183
  go_wp2
  go_ret
  exact ⟨rfl, rfl⟩
set_option maxHeartbeats 4000000 in
set_option maxRecDepth 100000 in
theorem take_calls (W0 w : World) (l : List Pl.Tok) (bx : List Pl.BoxL) (s : ByteArray) (h : RS W0 w l bx) :
  Calls Tryz.prog 156 #[.pointer (some ⟨W0.heap.size, 0, none⟩), .string s] w fun e w' => e = .returned (.bool (Pl.headIs l (Pl.bs s))) ∧ RS W0 w' (if Pl.headIs l (Pl.bs s) = true then l.tail else l) bx := by
 have hat := at_calls W0 w l bx s h
 have H := Aside0.mk h
 obtain ⟨⟨A, c, v, hb, hC, hc, hR⟩, hB, hS, hM, hG⟩ := h
 have hc0 : w.cell? ⟨W0.heap.size, 0, none⟩ = some (.slice A l.length c) := (blk_cell hb 0).trans rfl
 have hf0 := blk_frozen hb 0
 cases hq : Pl.headIs l (Pl.bs s) with
 | false =>
  rw [hq] at hat
  clear hb hC hR hB hS hM hG hc0 hf0
  generalize hW : W0.heap.size = R at hat ⊢
  go_enter Tryz.func156, Tryz.ntmps156
  go_wp2_with (go_at_call 186; refine hat.mono ?_; rintro e w' ⟨rfl, rfl⟩)
  go_ret
  exact ⟨rfl, H.out⟩
 | true =>
  rw [hq] at hat
  obtain ⟨t, r, rfl, ht⟩ := Pl.headIs_ne hq
  obtain ⟨ad, rfl, h0, h1⟩ := tok_cell hC hB (i := 0) (t := t) (r := r) rfl
  have c1 : ((1 : Int) ≤ ((t :: r).length : Int)) = True := eq_true (by simp only [List.length_cons]; omega)
  have c2 : (((t :: r).length : Int) ≤ (c : Int)) = True := eq_true (by omega)
  have c3 : ((1 : Int) ≤ (c : Int)) = True := eq_true (by simp only [List.length_cons] at hc; omega)
  have c4 : (1 ≤ (t :: r).length) = True := eq_true (by simp)
  have c5 : ((t :: r).length ≤ c) = True := eq_true hc
  have c6 : (1 ≤ c) = True := eq_true (by simp only [List.length_cons] at hc; omega)
  have HC := Aside0.mk (fun A' n' c' h1 h2 h3 => RS.cut hb hC hc hR hB hS hM hG 1 (by simp) A' n' c' h1 h2 h3)
  have hcc := Aside0.mk hc
  clear hb hC hR hB hS hM hG h0 h1 hc
  clear H
  generalize hn : (t :: r).length = n at hat hc0 c1 c2 c4 c5 HC hcc ⊢
  generalize hW : W0.heap.size = R at hat hc0 hf0 HC ⊢
  go_enter Tryz.func156, Tryz.ntmps156
  go_wp2_with (go_at_call 186; refine hat.mono ?_; rintro e w' ⟨rfl, rfl⟩)
  all_goals
   go_ret
   exact ⟨rfl, HC.out _ _ _ (by first | rfl | (simp [*]; done) | (simp [*]; rfl)) (by first | rfl | (simp; done) | omega) (by first | rfl | (simp; done) | omega)⟩
/-! Layer 14: how many words stand at the front, and what they say -/
theorem join_len : ∀ l : List Pl.Tok, (Lib.join (l.map (·.2)) [32]).length ≤ (Pl.cat l).length + l.length
 | [] => by simp [Pl.join_nil]
 | [t] => by rw [List.map_cons, List.map_nil, Pl.join_one]; simp [Pl.cat]
 | t :: u :: r => by
  have ih := join_len (u :: r)
  have e : Pl.cat (t :: u :: r) = t.2 ++ Pl.cat (u :: r) := by simp [Pl.cat]
  have e2 : Lib.join ((t :: u :: r).map (·.2)) [32] = t.2 ++ [32] ++ Lib.join ((u :: r).map (·.2)) [32] := Pl.join_cons2 _ _ _ _
  rw [e2, e]
  simp only [List.length_append, List.length_cons, List.length_nil] at ih ⊢
  omega
def txs (l : List Pl.Tok) : List ByteArray := l.map fun t => Pl.str t.2
theorem join_call (l : List Pl.Tok) (hS : Small l) (i : Nat) (b : Nat) (W : World) (v : Value) (h : Kd.R Kd.string 9 W b (fun _ => True) v (txs (l.take i))) :
  ∃ A c n q, v = .slice A n c ∧ Hid (n = (l.take i).length) ∧ Hid (q = Pl.str (Lib.join ((l.take i).map (·.2)) [32])) ∧ Hid (∀ W1, Below W.heap.size W W1 → Calls Tryz.prog 203 #[.slice A n c, .string ⟨#[32]⟩] W1 fun e w' => e = .returned (.string q) ∧ Below W1.heap.size W1 w') := by
 obtain ⟨A, c, rfl⟩ := Kd.R_slice h
 have hlen : (txs (l.take i)).length = (l.take i).length := List.length_map _
 refine ⟨A, c, _, _, by rw [hlen], hid rfl, hid rfl, hid (fun W1 hW1 => ?_)⟩
 obtain ⟨-, hc, hC⟩ := Kd.R_reads' h
 have hl : (l.take i).length ≤ 50000 := Nat.le_trans (by rw [List.length_take]; omega) hS.len
 have hs : (Pl.cat (l.take i)).length ≤ 50000 := by
  have h2 := hS.sum
  have h3 : Pl.cat l = Pl.cat (l.take i) ++ Pl.cat (l.drop i) := by rw [← Pl.cat_app, List.take_append_drop]
  rw [h3, List.length_append] at h2
  omega
 have hj : Pl.join (txs (l.take i)) ⟨#[32]⟩ = Pl.str (Lib.join ((l.take i).map (·.2)) [32]) := by
  unfold Pl.join txs
  rw [List.map_map]
  exact congrArg Pl.str (congrArg (Lib.join · [32]) (List.map_congr_left (fun t _ => Pl.bs_str t.2)))
 have hjl := join_len (l.take i)
 have := strings_Join.calls A c (txs (l.take i)) ⟨#[32]⟩ (Pl.join (txs (l.take i)) ⟨#[32]⟩) W1 (Kd.C_below hC hW1) hc (by
  unfold strings_Join.f
  rw [if_pos (by rw [hlen]; omega), if_pos (by rw [hj, Pl.str_size]; omega)])
 rw [hlen, hj] at this
 exact this
theorem take_while {l : List Pl.Tok} {i : Nat} (h : (l.take i).all Pl.wordT = true) (h2 : l.drop i = [] ∨ ∃ t r, l.drop i = t :: r ∧ Pl.wordT t = false) : l.takeWhile Pl.wordT = l.take i := by
 have := (Pl.span_all Pl.wordT (l.drop i) h2 (l.take i) (fun t ht => List.all_eq_true.1 h t ht)).1
 rwa [List.take_append_drop] at this
set_option maxRecDepth 100000 in
theorem words_calls (W0 w : World) (l : List Pl.Tok) (bx : List Pl.BoxL) (h : RS W0 w l bx) :
  Calls Tryz.prog 182 #[.pointer (some ⟨W0.heap.size, 0, none⟩)] w fun e w' => e = .returned (.tuple #[.int .i64 ((l.takeWhile Pl.wordT).length : Nat), .string (Pl.str (Pl.nameL l))]) ∧ Below w.heap.size w w' := by
 obtain ⟨⟨A, c, v, hb, hC, hc, hR⟩, hB, hS, hM, hG⟩ := h
 have hu := Tryz.underlying194
 have hc0 : w.cell? ⟨W0.heap.size, 0, none⟩ = some (.slice A l.length c) := (blk_cell hb 0).trans rfl
 have HC := hid hC
 have HB0 := hid hB
 have HS := hid hS
 have hz := hS.len
 clear hb hC hR hB hS hM hG
 go_enter Tryz.func182, Tryz.ntmps182
 go_wp2
 go_loopw [4, 12] (fun v4 v12 wr => ∃ i : Nat, v12 = .int .i64 i ∧ i ≤ l.length ∧ Hid ((l.take i).all Pl.wordT = true) ∧ Hid (Kd.R Kd.string 9 wr w.heap.size (fun _ => True) v4 (txs (l.take i))) ∧ Hid (Below w.heap.size w wr)) (fun _ v12 _ => l.length - (intOf v12).toNat)
 case atStart => exact ⟨0, rfl, Nat.zero_le _, hid rfl, hid (Kd.R_nil _ _ _ _ _), hid (Below.refl _ _)⟩
 case round =>
  obtain ⟨i, rfl, hi, HW, HR, HBw⟩ := hrel
  cases hd : l.drop i with
  | nil =>
   have hl : l.length ≤ i := by
    have := congrArg List.length hd
    rw [List.length_drop, List.length_nil] at this
    omega
   have c1 : decide ((i : Int) < (l.length : Int)) = false := decide_eq_false (by omega)
   have c1n : decide (i < l.length) = false := decide_eq_false (by omega)
   obtain ⟨A2, c2, n2, q2, rfl, hn2, hq2, hj⟩ := join_call l HS.out i _ wr _ HR.out
   have htw := hid (take_while HW.out (.inl hd))
   clear hl hz hi hd hc
   go_wp2_with (go_at_call 203; refine (hj.out _ (Below.refl _ _)).mono ?_; rintro e w' ⟨rfl, hb'⟩)
   go_ret2
   refine ⟨?_, HBw.out.trans (hb'.mono HBw.out.size)⟩
   unfold Pl.nameL
   rw [htw.out, hn2.out, hq2.out]
   rfl
  | cons t r =>
   have hl : i < l.length := by
    have := congrArg List.length hd
    rw [List.length_drop, List.length_cons] at this
    omega
   obtain ⟨ad, rfl, h0, h1⟩ := tok_cell HC.out (HB0.out.trans (HBw.out.mono HB0.out.size)) hd
   have c1 : decide ((i : Int) < (l.length : Int)) = true := decide_eq_true (by omega)
   have c1n : decide (i < l.length) = true := decide_eq_true (by omega)
   have c2 : ((i : Int) < (l.length : Int)) = True := eq_true (by omega)
   have c3 : (i < l.length) = True := eq_true (by omega)
   have c5 : ((0 : Int) ≤ (i : Int)) = True := eq_true (by omega)
   have hsnoc : l.take (i + 1) = l.take i ++ [t] := by
    rw [List.take_succ_eq_append_getElem hl]
    congr 2
    have := List.getElem?_drop (xs := l) (i := i) (j := 0)
    rw [hd] at this
    simpa [List.getElem?_eq_getElem hl] using this.symm
   have HSN := hid hsnoc
   have HD := hid hd
   clear hsnoc hd
   by_cases hk : t.1 = 3
   ·obtain ⟨A2, c2', n2, q2, rfl, hn2, hq2, hj⟩ := join_call l HS.out i _ wr _ HR.out
    have htw := hid (take_while HW.out (.inr ⟨t, r, HD.out, by unfold Pl.wordT; rw [hk]; rfl⟩))
    rw [hk] at h0
    go_wp2_with (first
     | ((with_reducible refine gate_dst (N := 6) rfl ?_); refine box_event ?hg (N := 6) ?hd (cs := #[.int .i64 0, .string (⟨#[]⟩ : ByteArray)]) (t := 194) ?hr ?_; (case hd => rfl); (case hg => rfl); (case hr => first | (go_simp; done) | (go_simp; rfl)); intro g hg w7 hbox hb; have b0 := (blk_cell hbox 0).trans rfl; have b1 := (blk_cell hbox 1).trans rfl; have bf0 := blk_frozen hbox 0; have bf1 := blk_frozen hbox 1; have HBX := hid hb; have HG := hid hg; clear hb hbox hg)
     | (go_at_call 203; have hB1 : Below wr.heap.size wr ((w7.setCell ⟨g, 0, none⟩ (.int .i64 3)).setCell ⟨g, 1, none⟩ (.string (Pl.str t.2))) := (HBX.out.setCell (p := ⟨g, 0, none⟩) (Nat.le_of_eq HG.out.symm) _).setCell (p := ⟨g, 1, none⟩) (Nat.le_of_eq HG.out.symm) _; refine (hj.out _ hB1).mono ?_; rintro e w' ⟨rfl, hb'⟩))
    go_ret2
    refine ⟨?_, HBw.out.trans ((hB1.trans (hb'.mono hB1.size)).mono HBw.out.size)⟩
    unfold Pl.nameL
    rw [htw.out, hn2.out, hq2.out]
    rfl
   have k1 : (t.1 == 3) = false := beq_eq_false_iff_ne.2 hk
   have hp : Hid (Pl.wordT t = true) := hid (by unfold Pl.wordT; exact bne_iff_ne.2 hk)
   have hlen : (txs (l.take i)).length = i := by rw [txs, List.length_map, List.length_take]; omega
   go_wp2_with (first
    | ((with_reducible refine gate_dst (N := 6) rfl ?_); refine box_event ?hg (N := 6) ?hd (cs := #[.int .i64 0, .string (⟨#[]⟩ : ByteArray)]) (t := 194) ?hr ?_; (case hd => rfl); (case hg => rfl); (case hr => first | (go_simp; done) | (go_simp; rfl)); intro g hg w7 hbox hb; have b0 := (blk_cell hbox 0).trans rfl; have b1 := (blk_cell hbox 1).trans rfl; have bf0 := blk_frozen hbox 0; have bf1 := blk_frozen hbox 1; have HGL := hid (blk_lt hbox); have HBW := hid (((HBw.out.trans (hb.mono HBw.out.size)).setCell (p := ⟨g, 0, none⟩) (show w.heap.size ≤ g by have := HBw.out.size; omega) (.int .i64 t.1)).setCell (p := ⟨g, 1, none⟩) (show w.heap.size ≤ g by have := HBw.out.size; omega) (.string (Pl.str t.2))); have HBX := hid hb; have HG := hid hg; clear hb hbox hg)
    | ((with_reducible refine gate_builtin (b := .append) (xs := #[.tmp 19, .tmp 22]) rfl ?_); at_builtin; refine Kd.R_append Kd.string (w0 := w) w.heap.size rfl (.tmp 19) (.tmp 22) 48 9 (.string ⟨#[]⟩) 16 rfl Tryz.underlying48 info9 rfl (by decide) (by omega) u4 (txs (l.take i)) (Pl.str t.2) [.string (Pl.str t.2)] (fun k => k ≠ g) (fun _ => False) rfl (by first | rfl | (go_simp; done) | (go_simp; rfl)) ?aP (fun _ hk => hk.elim) ?aF ?aO ?aB ?aS ?aL ?_; (case aP => exact rfl); (case aF => exact (fun k hk => by have h2 : w7.heap.size ≤ k := (by simpa using hk); have := HGL.out; show k ≠ g; omega)); (case aO => exact Kd.R_far (p := ⟨g, 1, none⟩) (Kd.R_far (p := ⟨g, 0, none⟩) (Kd.R_below (Kd.R_mono (Kd.R_bound HR.out) (fun k hk => by have := hk.2.2.1; have := HG.out; show k ≠ g; omega)) HBX.out) (fun _ hk => hk) _) (fun _ hk => hk) _); (case aB => exact HBW.out); (case aS => exact HBW.out.size); (case aL => rw [hlen]; omega); intro v1 w1 ho hb1 hg1 hat1; have HO1 := hid ho; have HB1 := hid hb1; clear ho hb1 hg1 hat1))
   go_roundw
   case rel =>
    exact ⟨i + 1, by go_num, by omega, hid (by rw [HSN.out, List.all_append, HW.out]; simpa using hp.out), hid (by rw [HSN.out]; unfold txs; rw [List.map_append]; exact Kd.R_mono HO1.out (fun _ _ => trivial)), HB1⟩
   case measure => simp [intOf]; omega
/-! Layer 14: an address, taken away from the front -/
set_option maxRecDepth 100000 in
theorem stop_byte (c : UInt8) : Lib.contains [44, 59, 58, 60, 62] [c] = Pl.stopB c := Pl.forall_byte (p := fun c => Lib.contains [44, 59, 58, 60, 62] [c] = Pl.stopB c) (by decide +kernel) c
theorem stops_is {t : Pl.Tok} (h : Pl.okTok t) : mbx_stops.f t.1 (Pl.str t.2) = some (Pl.stopT t) := by
 unfold mbx_stops.f Pl.stopT
 by_cases h3 : t.1 = 3
 ·obtain ⟨c, hc⟩ := h h3
  rw [if_pos h3, hc, h3]
  unfold strings_Contains.f
  rw [if_pos (by decide), Option.bind_some]
  show some (Lib.contains [44, 59, 58, 60, 62] (Pl.bs (Pl.str [c]))) = some (((3 : Int) == 3) && Pl.stopB c)
  rw [Pl.bs_str, stop_byte]
  rfl
 rw [if_neg h3, show (t.1 == 3) = false from beq_eq_false_iff_ne.2 h3]
 rfl
theorem take_non {l : List Pl.Tok} {i : Nat} (h : (l.take i).all Pl.nonT = true) (h2 : l.drop i = [] ∨ ∃ t r, l.drop i = t :: r ∧ Pl.nonT t = false) : l.takeWhile Pl.nonT = l.take i ∧ l.dropWhile Pl.nonT = l.drop i := by
 have := Pl.span_all Pl.nonT (l.drop i) h2 (l.take i) (fun t ht => List.all_eq_true.1 h t ht)
 rwa [List.take_append_drop] at this
theorem small_take {l : List Pl.Tok} (h : Small l) (i : Nat) : Small (l.take i) := by
 have h2 := h.sum
 have h3 : Pl.cat l = Pl.cat (l.take i) ++ Pl.cat (l.drop i) := by rw [← Pl.cat_app, List.take_append_drop]
 rw [h3, List.length_append] at h2
 exact ⟨Nat.le_trans (by rw [List.length_take]; omega) h.len, by omega, fun t ht => h.ok t (List.mem_of_mem_take ht)⟩
theorem of_call {W0 : World} {l : List Pl.Tok} {A : Option Addr} {c : Nat} (hC : Kd.C k194 W0 A l.length (l.map Pl.tok142)) (hc : l.length ≤ c) (hS : Small l) (i : Nat) (hi : i ≤ l.length) {W : World} (hB : Below W0.heap.size W0 W) :
  Calls Tryz.prog 213 #[.slice A i c] W fun e w' => e = .returned (.tuple #[.agg #[.string (Pl.ofT (l.take i)).1, .string (Pl.ofT (l.take i)).2.1], .int .i64 (Pl.ofT (l.take i)).2.2]) ∧ Below W.heap.size W w' := by
 have hl : (l.take i).length = i := by rw [List.length_take]; omega
 have hC1 := Kd.C_take (m := i) (show Kd.C k194 W0 A (l.map Pl.tok142).length (l.map Pl.tok142) by rw [List.length_map]; exact hC) (by rw [List.length_map]; exact hi)
 rw [← List.map_take] at hC1
 have hs := small_take hS i
 have h := addr_Of.calls (2 * (l.take i).length + 400000) A c ((l.take i).map Pl.tok142) _ _ _ W (Kd.C_below hC1 hB) (by rw [List.length_map, hl]; omega) (Pl.addrOf_is (l.take i) (by have := hs.len; omega) (by have := hs.sum; omega) _ (Nat.le_refl _))
 rw [List.length_map, hl] at h
 exact h
theorem info_mbxBox : (Tryz.prog.info? 91).map (fun i => (i.zero, i.size, i.bytes)) = some (some (.agg #[(.string ⟨#[]⟩), (.string ⟨#[]⟩), (.string ⟨#[]⟩)]), 3, 48) := by kernel_rfl
theorem RS.cutW {W0 w : World} {l : List Pl.Tok} {bx : List Pl.BoxL} (h : RS W0 w l bx) {A : Option Addr} {n c : Nat} {v : Value} (hb : w.heap[W0.heap.size]? = some (.cells #[.slice A n c, v] 178 (0, 0))) (m : Nat) (hm : m ≤ l.length) (A' : Option Addr) (n' c' : Nat) (hA : A' = if c = m then A else A.map (·.add (m * 2))) (hn : n' = n - m) (hc' : c' = c - m) :
  RS W0 (w.setCell ⟨W0.heap.size, 0, none⟩ (.slice A' n' c')) (l.drop m) bx := by
 obtain ⟨⟨A1, c1, v1, hb1, hC, hc, hR⟩, hB, hS, hM, hG⟩ := h
 rw [hb] at hb1
 simp only [Option.some.injEq, Obj.cells.injEq, Array.mk.injEq, List.cons.injEq, Value.slice.injEq, and_true] at hb1
 obtain ⟨⟨rfl, rfl, rfl⟩, rfl⟩ := hb1
 exact RS.cut hb hC hc hR hB hS hM hG m hm A' n' c' hA hn hc'
theorem RS.boxes {W0 w : World} {l : List Pl.Tok} {bx : List Pl.BoxL} (h : RS W0 w l bx) {x v : Value} (hb : w.heap[W0.heap.size]? = some (.cells #[x, v] 178 (0, 0))) : Kd.R k91 91 w (W0.heap.size + 1) (fun _ => True) v (bx.map toBox) := by
 obtain ⟨⟨A1, c1, v1, hb1, hC, hc, hR⟩, hB, hS, hM, hG⟩ := h
 rw [hb] at hb1
 simp only [Option.some.injEq, Obj.cells.injEq, Array.mk.injEq, List.cons.injEq, and_true] at hb1
 obtain ⟨rfl, rfl⟩ := hb1
 exact hR
theorem RS.grow {W0 w w1 : World} {l : List Pl.Tok} {bx : List Pl.BoxL} (h : RS W0 w l bx) (hb : Below (W0.heap.size + 1) w w1) {v1 : Value} {nm a b : ByteArray} (hR : Kd.R k91 91 w1 (W0.heap.size + 1) (fun _ => True) v1 (bx.map toBox ++ [(⟨nm, ⟨a, b⟩⟩ : S91)])) (hn : ¬ bx.length = 100) :
  RS W0 (w1.setCell ⟨W0.heap.size, 1, none⟩ v1) l (bx ++ [(Pl.bs nm, Pl.bs a, Pl.bs b)]) := by
 obtain ⟨⟨A1, c1, v, hb1, hC, hc, _⟩, hB, hS, hM, hG⟩ := h
 refine ⟨⟨A1, c1, v1, blk_put ((hb.block W0.heap.size (Nat.lt_succ_self _)).trans hb1) 1 v1 rfl, hC, hc, ?_⟩, (hB.trans (hb.mono (Nat.le_succ _))).setCell (p := ⟨W0.heap.size, 1, none⟩) (Nat.le_refl _) _, hS, by rw [List.length_append, List.length_singleton]; omega, hG⟩
 rw [List.map_append, List.map_singleton, show toBox (Pl.bs nm, Pl.bs a, Pl.bs b) = (⟨nm, ⟨a, b⟩⟩ : S91) by unfold toBox; simp only [Pl.str_bs]]
 exact Kd.R_mono (Kd.R_far (p := ⟨W0.heap.size, 1, none⟩) (Kd.R_bound hR) (fun k hk => by show k ≠ W0.heap.size; have := hk.2.1; omega) _) (fun _ _ => trivial)
def mbx_address.T : Bool × List (List Nat × List Nat) := (true,
 [([], []), ([], []), ([1], [1]), ([2], [2]), ([3], [3]), ([], []), ([], []), ([5, 6], [5, 6]), ([7], [7]),
  ([4, 8], [4, 8]), ([0, 0, 1, 2, 3, 4, 5, 6, 7, 8, 9], [0]), ([10, 0, 1, 2, 3, 4, 5, 6, 7, 8, 9], [10]),
  ([11, 9, 9, 0, 1, 2, 3, 4, 5, 6, 7, 8, 9], [9, 11])])
def mbx_address.B : List Nat := [0, 0, 2, 6, 14, 0, 0, 96, 224, 510, 1023, 2047, 4095]
theorem mbx_address.tab : rtab .any (opsOf Tryz.f204 10) = mbx_address.T := by kernel_rfl
theorem mbx_address.bits : waitsOk mbx_address.T.2 mbx_address.B = true := by kernel_rfl
set_option maxRecDepth 100000 in
theorem address_calls (W0 w : World) (l : List Pl.Tok) (bx : List Pl.BoxL) (nm : ByteArray) (h : RS W0 w l bx) :
  Calls Tryz.prog 204 #[.pointer (some ⟨W0.heap.size, 0, none⟩), .string nm] w fun e w' => e = .returned (.int .i64 (Pl.addressM (Pl.bs nm) l bx).2) ∧ ((Pl.addressM (Pl.bs nm) l bx).2 = 0 → RS W0 w' (Pl.addressM (Pl.bs nm) l bx).1.1 (Pl.addressM (Pl.bs nm) l bx).1.2) ∧ Below W0.heap.size W0 w' := by
 have hz := h.small.len
 have H := hid h
 have hz0 := hid h.lt
 clear h
 go_enter Tryz.func204, Tryz.ntmps204
 go_wp2
 go_loopw [5] (fun v5 wr => ∃ i : Nat, v5 = .int .i64 i ∧ i ≤ l.length ∧ Hid ((l.take i).all Pl.nonT = true) ∧ Hid (RS W0 wr l bx)) (fun v5 _ => l.length - (intOf v5).toNat)
 case atStart => exact ⟨0, rfl, Nat.zero_le _, hid rfl, H⟩
 case round =>
  clear H hz0
  obtain ⟨i, rfl, hi, HW, H⟩ := hrel
  obtain ⟨⟨A, c, v, hb, hC, hc, hR⟩, hB, hS, hM, hG⟩ := H.out
  have hu := Tryz.underlying194
  have hu2 := Tryz.underlying30
  have hc0 : wr.cell? ⟨W0.heap.size, 0, none⟩ = some (.slice A l.length c) := (blk_cell hb 0).trans rfl
  cases hd : l.drop i with
  | nil =>
   have hl : l.length ≤ i := by
    have := congrArg List.length hd
    rw [List.length_drop, List.length_nil] at this
    omega
   have c1 : decide ((i : Int) < (l.length : Int)) = false := decide_eq_false (by omega)
   have c1n : decide (i < l.length) = false := decide_eq_false (by omega)
   clear hl
   obtain ⟨Ab, cb, nb, rfl, hnb⟩ : ∃ Ab cb nb, v = .slice Ab nb cb ∧ Hid (nb = bx.length) := by
    obtain ⟨Ab, cb, e⟩ := Kd.R_slice hR
    exact ⟨Ab, cb, _, e, hid (List.length_map _)⟩
   have htw := hid (take_non HW.out (.inl hd))
   have hof := hid (fun W1 (hB1 : Below W0.heap.size W0 W1) => of_call hC hc hS i hi hB1)
   obtain ⟨⟨a, b, e0⟩, hres⟩ : ∃ x, Pl.ofT (l.take i) = x := ⟨_, rfl⟩
   rw [hres] at hof
   have hadr : Hid (Pl.addressM (Pl.bs nm) l bx = if e0 ≠ 0 then Pl.failM e0 else if bx.length = 100 then Pl.failM 8 else ((l.drop i, bx ++ [(Pl.bs nm, Pl.bs a, Pl.bs b)]), 0)) := by
    refine hid ?_
    unfold Pl.addressM
    rw [htw.out.1, htw.out.2, hres]
   have c6 : ((i : Int) ≤ (c : Int)) = True := eq_true (by omega)
   have c7 : (i ≤ c) = True := eq_true (by omega)
   have c8 : ((0 : Int) ≤ (i : Int)) = True := eq_true (by omega)
   have c9 : ((i : Int) ≤ (l.length : Int)) = True := eq_true (by omega)
   have c10 : (i ≤ l.length) = True := eq_true (by omega)
   have c11 : ((l.length : Int) ≤ (c : Int)) = True := eq_true (by omega)
   have c12 : (l.length ≤ c) = True := eq_true (by omega)
   have HBK := hid hb
   have hRlt := hid H.out.lt
   have hcc := hid hc
   have hii := hid hi
   have hzz := hid hz
   have HC := hid hC
   have HSM := hid hS
   have HMM := hid hM
   have HGG := hid hG
   clear hb hC hR hB hS hM hG hi hz hc hd
   have H2 := H
   have HBK2 := HBK
   by_cases he : e0 = 0
   case neg =>
    have ce : (e0 != 0) = true := bne_iff_ne.2 he
    go_wp2_with (first
     | (go_at_call 213; refine (hof.out _ H2.out.below).mono ?_; rintro e w5 ⟨rfl, b5⟩; have H5 := hid (H2.out.keep b5); have HBK5 := hid ((b5.block W0.heap.size H2.out.lt).trans HBK2.out))
     | ((with_reducible refine gate_dst (N := 6) rfl ?_); refine box_event ?hg (N := 6) ?hd (cs := #[.string (⟨#[]⟩ : ByteArray), .string (⟨#[]⟩ : ByteArray)]) (t := 30) ?hr ?_; (case hd => rfl); (case hg => rfl); (case hr => first | (go_simp; done) | (go_simp; rfl)); intro g hg w7 hbox hb; have b0 := (blk_cell hbox 0).trans rfl; have b1 := (blk_cell hbox 1).trans rfl; have bf0 := blk_frozen hbox 0; have bf1 := blk_frozen hbox 1; have H7 := hid (H5.out.keep hb); have HG7 := hid hg; have HL5 := hid H5.out.lt; clear hb hbox hg))
    go_ret
    refine ⟨?_, fun h0 => ?_, ?_⟩
    ·rw [hadr.out, if_pos he]; rfl
    ·rw [hadr.out, if_pos he] at h0; exact absurd h0 he
    exact (H7.out.below.setCell (p := ⟨g, 0, none⟩) (by show W0.heap.size ≤ g; have := HL5.out; have := HG7.out; omega) _).setCell (p := ⟨g, 1, none⟩) (by show W0.heap.size ≤ g; have := HL5.out; have := HG7.out; omega) _
   case pos =>
    subst he
    by_cases hn : nb = 100
    ·have cn : ((nb : Int) == 100) = true := beq_iff_eq.2 (by omega)
     have cn2 : (nb == 100) = true := beq_iff_eq.2 hn
     go_wp2_with (first
      | (go_at_call 213; refine (hof.out _ H2.out.below).mono ?_; rintro e w5 ⟨rfl, b5⟩; have H5 := hid (H2.out.keep b5); have HBK5 := hid ((b5.block W0.heap.size H2.out.lt).trans HBK2.out))
      | ((with_reducible refine gate_dst (N := 6) rfl ?_); refine box_event ?hg (N := 6) ?hd (cs := #[.string (⟨#[]⟩ : ByteArray), .string (⟨#[]⟩ : ByteArray)]) (t := 30) ?hr ?_; (case hd => rfl); (case hg => rfl); (case hr => first | (go_simp; done) | (go_simp; rfl)); intro g hg w7 hbox hb; have b0 := (blk_cell hbox 0).trans rfl; have b1 := (blk_cell hbox 1).trans rfl; have bf0 := blk_frozen hbox 0; have bf1 := blk_frozen hbox 1; have HB57 := hid hb; have HG7k := hid hbox; have HBK7 := hid ((hb.block W0.heap.size H5.out.lt).trans HBK5.out); have H7 := hid (H5.out.keep hb); have HG7 := hid hg; have HL5 := hid H5.out.lt; have hne : ¬ W0.heap.size = g := (by have := HL5.out; omega); have r0 := (blk_cell HBK7.out 0).trans rfl; have r1 := (blk_cell HBK7.out 1).trans rfl; have rf0 := blk_frozen HBK7.out 0; have rf1 := blk_frozen HBK7.out 1; clear hb hbox hg))
     all_goals
      have hb100 : bx.length = 100 := by rw [← hnb.out]; exact hn
      have hal : Pl.addressM (Pl.bs nm) l bx = Pl.failM 8 := by rw [hadr.out, if_neg (by simp), if_pos hb100]
      go_ret
      rw [hal]
      exact ⟨rfl, fun h0 => absurd h0 (by decide), (((H5.out.keep ((HB57.out.setCell (p := ⟨g, 0, none⟩) (Nat.le_of_eq HG7.out.symm) (.string a)).setCell (p := ⟨g, 1, none⟩) (Nat.le_of_eq HG7.out.symm) (.string b))).below).setCell (p := ⟨W0.heap.size, 0, none⟩) (Nat.le_refl _) _)⟩
    have cn : ((nb : Int) == 100) = false := beq_eq_false_iff_ne.2 (by omega)
    have cn2 : (nb == 100) = false := beq_eq_false_iff_ne.2 hn
    go_wp2_with (first
     | (go_at_call 213; refine (hof.out _ H2.out.below).mono ?_; rintro e w5 ⟨rfl, b5⟩; have H5 := hid (H2.out.keep b5); have HBK5 := hid ((b5.block W0.heap.size H2.out.lt).trans HBK2.out))
     | ((with_reducible refine gate_dst (N := 6) rfl ?_); refine box_event ?hg (N := 6) ?hd (cs := #[.string (⟨#[]⟩ : ByteArray), .string (⟨#[]⟩ : ByteArray)]) (t := 30) ?hr ?_; (case hd => rfl); (case hg => rfl); (case hr => first | (go_simp; done) | (go_simp; rfl)); intro g hg w7 hbox hb; have b0 := (blk_cell hbox 0).trans rfl; have b1 := (blk_cell hbox 1).trans rfl; have bf0 := blk_frozen hbox 0; have bf1 := blk_frozen hbox 1; have HB57 := hid hb; have HG7k := hid hbox; have HBK7 := hid ((hb.block W0.heap.size H5.out.lt).trans HBK5.out); have H7 := hid (H5.out.keep hb); have HG7 := hid hg; have HL5 := hid H5.out.lt; have hne : ¬ W0.heap.size = g := (by have := HL5.out; omega); have r0 := (blk_cell HBK7.out 0).trans rfl; have r1 := (blk_cell HBK7.out 1).trans rfl; have rf0 := blk_frozen HBK7.out 0; have rf1 := blk_frozen HBK7.out 1; clear hb hbox hg))
    all_goals
     have hgR : W0.heap.size < g := by have := HL5.out; have := HG7.out; omega
     have hnb100 : Hid (¬ bx.length = 100) := hid (by rw [← hnb.out]; exact hn)
     have HGp : Hid (((w7.setCell ⟨g, 0, none⟩ (.string a)).setCell ⟨g, 1, none⟩ (.string b)).heap[g]? = some (.cells #[.string a, .string b] 30 (0, 0))) := hid (blk_put (blk_put HG7k.out 0 _ rfl) 1 _ rfl)
     have HB7p : Hid (((w7.setCell ⟨g, 0, none⟩ (.string a)).setCell ⟨g, 1, none⟩ (.string b)).heap[W0.heap.size]? = some (.cells #[.slice A l.length c, .slice Ab nb cb] 178 (0, 0))) := hid ((Below.heap_setCell _ _ _ _ (by show W0.heap.size ≠ g; omega)).trans ((Below.heap_setCell _ _ _ _ (by show W0.heap.size ≠ g; omega)).trans HBK7.out))
     have H7p : Hid (RS W0 ((w7.setCell ⟨g, 0, none⟩ (.string a)).setCell ⟨g, 1, none⟩ (.string b)) l bx) := hid (H5.out.keep ((HB57.out.setCell (p := ⟨g, 0, none⟩) (Nat.le_of_eq HG7.out.symm) _).setCell (p := ⟨g, 1, none⟩) (Nat.le_of_eq HG7.out.symm) _))
     refine start_ (n := 13) (S := (fun w' => w'.cell? ⟨W0.heap.size, 1, none⟩ = some (.slice Ab nb cb) ∧ w'.cell? ⟨g, 0, none⟩ = some (.string a) ∧ w'.cell? ⟨g, 1, none⟩ = some (.string b))) (ds := [12]) #[false, false, false, false, false, false, false, false, false, false, false, false, false] (by kernel_rfl) rfl rfl ⟨(blk_cell (blk_drew (blk_put HB7p.out 0 _ rfl)) 1).trans rfl, (blk_cell (blk_drew ((Below.heap_setCell _ _ _ _ (by show g ≠ W0.heap.size; omega)).trans HGp.out)) 0).trans rfl, (blk_cell (blk_drew ((Below.heap_setCell _ _ _ _ (by show g ≠ W0.heap.size; omega)).trans HGp.out)) 1).trans rfl⟩ (fun hHeld => ?_); refine with_tabW mbx_address.tab mbx_address.bits (fun HT_ HW_ => ?_)
     generalize hW8 : World.drew _ = w8 at hHeld ⊢
     have H8 : Hid (RS W0 w8 (l.drop i) bx) := hid (by rw [← hW8]; exact (RS.cutW H7p.out HB7p.out i hii.out _ _ _ (by first | rfl | (simp [*]; done) | (simp [*]; rfl)) (by first | rfl | (simp; done) | omega) (by first | rfl | (simp; done) | omega)).keep (below_drew (Below.refl _ _)))
     have HB8 : Hid (∃ A' n' c', w8.heap[W0.heap.size]? = some (.cells #[.slice A' n' c', .slice Ab nb cb] 178 (0, 0))) := hid ⟨_, _, _, by rw [← hW8]; exact blk_drew (blk_put HB7p.out 0 _ rfl)⟩
     have HG8 : Hid (w8.heap[g]? = some (.cells #[.string a, .string b] 30 (0, 0))) := hid (by rw [← hW8]; exact blk_drew ((Below.heap_setCell _ _ _ _ (by show g ≠ W0.heap.size; omega)).trans HGp.out))
     clear hW8 b0 b1 bf0 bf1 r0 r1 rf0 rf1
     refine pure_ (i := 0) (N := some 56) (v := ?_) (a' := ?_) #[true, false, false, false, false, false, false, false, false, false, false, false, false] rfl rfl (any_of HT_.out (by kernel_rfl)) (fun _ _ _ h => h) (Or.inl ⟨by rfl, ?_⟩) ?_ ?_
     rotate_left
     ·intro w'
      go_simp
      with_reducible rfl
     rotate_left
     ·simp only [Act.put, List.setIfInBounds_toArray, List.set_cons_zero, List.set_cons_succ, i64_w, i32_w]
      rfl
     refine pure_ (i := 1) (N := some 57) (v := ?_) (a' := ?_) #[true, true, false, false, false, false, false, false, false, false, false, false, false] rfl rfl (any_of HT_.out (by kernel_rfl)) (fun _ _ _ h => h) (Or.inl ⟨by rfl, ?_⟩) ?_ ?_
     rotate_left
     ·intro w'
      go_simp
      with_reducible rfl
     rotate_left
     ·simp only [Act.put, List.setIfInBounds_toArray, List.set_cons_zero, List.set_cons_succ, i64_w, i32_w]
      rfl
     refine pure_ (i := 2) (N := some 58) (v := ?_) (a' := ?_) #[true, true, true, false, false, false, false, false, false, false, false, false, false] rfl rfl (any_of HT_.out (by kernel_rfl)) (fun _ _ _ h => h) (Or.inl ⟨by rfl, ?_⟩) ?_ ?_
     rotate_left
     ·intro w'
      go_simp
      with_reducible rfl
     rotate_left
     ·simp only [Act.put, List.setIfInBounds_toArray, List.set_cons_zero, List.set_cons_succ, i64_w, i32_w]
      rfl
     refine pure_ (i := 3) (N := some 59) (v := ?_) (a' := ?_) #[true, true, true, true, false, false, false, false, false, false, false, false, false] rfl rfl (any_of HT_.out (by kernel_rfl)) (fun _ _ _ h => h) (Or.inl ⟨by rfl, ?_⟩) ?_ ?_
     rotate_left
     ·intro w'
      go_simp
      with_reducible rfl
     rotate_left
     ·simp only [Act.put, List.setIfInBounds_toArray, List.set_cons_zero, List.set_cons_succ, i64_w, i32_w]
      rfl
     refine take_ (i := 4) (N := some 60) (v := ?_) (a' := ?_) #[true, true, true, true, true, false, false, false, false, false, false, false, false] rfl rfl (take_ofW HT_.out HW_.out (by kernel_rfl)) (fun _ _ _ h => h) (Or.inl ⟨by rfl, ?_⟩) hHeld ?_ ?_
     rotate_left
     ·rintro w' ⟨s0, s1, s2⟩
      go_simp
      with_reducible rfl
     rotate_left
     ·simp only [Act.put, List.setIfInBounds_toArray, List.set_cons_zero, List.set_cons_succ, i64_w, i32_w]
      rfl
     refine pure_ (i := 5) (N := some 61) (v := ?_) (a' := ?_) #[true, true, true, true, true, true, false, false, false, false, false, false, false] rfl rfl (any_of HT_.out (by kernel_rfl)) (fun _ _ _ h => h) (Or.inl ⟨by rfl, ?_⟩) ?_ ?_
     rotate_left
     ·intro w'
      go_simp
      with_reducible rfl
     rotate_left
     ·simp only [Act.put, List.setIfInBounds_toArray, List.set_cons_zero, List.set_cons_succ, i64_w, i32_w]
      rfl
     refine take_ (i := 6) (N := some 62) (v := ?_) (a' := ?_) #[true, true, true, true, true, true, true, false, false, false, false, false, false] rfl rfl (take_ofW HT_.out HW_.out (by kernel_rfl)) (fun _ _ _ h => h) (Or.inl ⟨by rfl, ?_⟩) hHeld ?_ ?_
     rotate_left
     ·rintro w' ⟨s0, s1, s2⟩
      go_simp
      with_reducible rfl
     rotate_left
     ·simp only [Act.put, List.setIfInBounds_toArray, List.set_cons_zero, List.set_cons_succ, i64_w, i32_w]
      rfl
     refine pure_ (i := 7) (N := some 63) (v := ?_) (a' := ?_) #[true, true, true, true, true, true, true, true, false, false, false, false, false] rfl rfl (any_of HT_.out (by kernel_rfl)) (fun _ _ _ h => h) (Or.inl ⟨by rfl, ?_⟩) ?_ ?_
     rotate_left
     ·intro w'
      go_simp
      with_reducible rfl
     rotate_left
     ·simp only [Act.put, List.setIfInBounds_toArray, List.set_cons_zero, List.set_cons_succ, i64_w, i32_w]
      rfl
     refine one_ (i := 8) (N := some 64) #[true, true, true, true, true, true, true, true, true, false, false, false, false] rfl rfl (one_of HT_.out (by kernel_rfl)) (by decide) (fun K hK => ?_)
     refine value_ (w1 := ?_) (v := ?_) (by rfl) rfl ?_ ?_
     rotate_left 2
     ·go_simp
      constructor
      ·rfl
      rfl
     refine hK.out _ _ ⟨(blk_cell (blk_alloc (show w8.heap[W0.heap.size]? = some (.cells #[.slice _ _ _, .slice Ab nb cb] _ (0, 0)) from HB8.out.choose_spec.choose_spec.choose_spec) (.cells #[.string nm, .string a, .string b] 91)) 1).trans rfl, (blk_cell (blk_alloc HG8.out (.cells #[.string nm, .string a, .string b] 91)) 0).trans rfl, (blk_cell (blk_alloc HG8.out (.cells #[.string nm, .string a, .string b] 91)) 1).trans rfl⟩ (fun hHeld3 => ?_)
     clear hK K
     refine norm_ (a' := ?_) ?_ ?_
     rotate_left
     ·show Act.put _ (some 64) _ = _
      simp only [Act.put, List.setIfInBounds_toArray, List.set_cons_zero, List.set_cons_succ, i64_w, i32_w]
      rfl
     refine one_ (i := 9) (N := some 65) #[true, true, true, true, true, true, true, true, true, true, false, false, false] rfl rfl (one_of HT_.out (by kernel_rfl)) (by decide) (fun K hK => ?_)
     have hRb : Kd.R k91 91 w8 (W0.heap.size + 1) (fun _ => True) (.slice Ab nb cb) (bx.map toBox) := by
      obtain ⟨A', n', c', h1⟩ := HB8.out
      exact H8.out.boxes h1
     refine Kd.R_append_step k91 (w0 := w8) (W0.heap.size + 1) (by rfl) (.tmp 60) (.tmp 64) 156 91 (.agg #[(.string ⟨#[]⟩), (.string ⟨#[]⟩), (.string ⟨#[]⟩)]) 48 rfl Tryz.underlying156 info_mbxBox rfl (by decide) (by omega) (.slice Ab nb cb) (bx.map toBox) (⟨nm, ⟨a, b⟩⟩ : S91) [.string nm, .string a, .string b] (fun _ => True) (fun _ => False) rfl rfl (k91_mkM _ _ _ _) (fun _ hk => hk.elim) (fun _ _ => trivial) hRb (Below.refl _ _) H8.out.lt (by rw [List.length_map]; have := HMM.out; omega) ?_
     intro v1 w9 ho hb9 hg9 hat9
     obtain ⟨Av, nv, cv, rfl⟩ : ∃ Av nv cv, v1 = .slice Av nv cv := by
      obtain ⟨Av, cv, e⟩ := Kd.R_slice ho
      exact ⟨Av, _, cv, e⟩
     have HB9 : Hid (∃ A' n' c', w9.heap[W0.heap.size]? = some (.cells #[.slice A' n' c', .slice Ab nb cb] 178 (0, 0))) := by
      obtain ⟨A', n', c', h1⟩ := HB8.out
      exact hid ⟨A', n', c', (hb9.block W0.heap.size (Nat.lt_succ_self _)).trans h1⟩
     have HG9 := hid ((hg9.block g (blk_lt HG8.out) (Kd.R_ne hRb HG8.out (by decide))).trans HG8.out)
     have HFIN := hid (H8.out.grow hb9 ho hnb100.out)
     refine hK.out _ _ ⟨(blk_cell HB9.out.choose_spec.choose_spec.choose_spec 1).trans rfl, (blk_cell HG9.out 0).trans rfl, (blk_cell HG9.out 1).trans rfl⟩ (fun hHeld4 => ?_)
     clear hK K hRb ho hb9 hg9 hat9
     refine norm_ (a' := ?_) ?_ ?_
     rotate_left
     ·show Act.put _ (some 65) _ = _
      simp only [Act.put, List.setIfInBounds_toArray, List.set_cons_zero, List.set_cons_succ, i64_w, i32_w]
      rfl
     refine pure_ (i := 10) (N := some 66) (v := ?_) (a' := ?_) #[true, true, true, true, true, true, true, true, true, true, true, false, false] rfl rfl (any_of HT_.out (by kernel_rfl)) (fun _ _ _ h => h) (Or.inl ⟨by rfl, ?_⟩) ?_ ?_
     rotate_left
     ·intro w'
      go_simp
      with_reducible rfl
     rotate_left
     ·simp only [Act.put, List.setIfInBounds_toArray, List.set_cons_zero, List.set_cons_succ, i64_w, i32_w]
      rfl
     refine pure_ (i := 11) (N := some 67) (v := ?_) (a' := ?_) #[true, true, true, true, true, true, true, true, true, true, true, true, false] rfl rfl (any_of HT_.out (by kernel_rfl)) (fun _ _ _ h => h) (Or.inl ⟨by rfl, ?_⟩) ?_ ?_
     rotate_left
     ·intro w'
      go_simp
      with_reducible rfl
     rotate_left
     ·simp only [Act.put, List.setIfInBounds_toArray, List.set_cons_zero, List.set_cons_succ, i64_w, i32_w]
      rfl
     have t1 := (blk_cell HB9.out.choose_spec.choose_spec.choose_spec 1).trans rfl
     have tf1 := blk_frozen HB9.out.choose_spec.choose_spec.choose_spec 1
     refine last_ (i := 12) (N := none) #[true, true, true, true, true, true, true, true, true, true, true, true, true] rfl rfl (one_of HT_.out (by kernel_rfl)) (by decide) (fun K hK => ?_)
     refine skip_ (w1 := w9.setCell ⟨W0.heap.size, 1, none⟩ (.slice Av nv cv)) (by rfl) rfl ?_ ?_
     ·go_simp
     refine hK.out _ _ ?_
     clear hK K
     refine done_ (done_of HT_.out (by kernel_rfl)) ?_
     go_wp2
     go_ret
     have hal : Pl.addressM (Pl.bs nm) l bx = ((l.drop i, bx ++ [(Pl.bs nm, Pl.bs a, Pl.bs b)]), 0) := by rw [hadr.out, if_neg (by simp), if_neg hnb100.out]
     rw [hal]
     exact ⟨rfl, fun _ => HFIN.out, HFIN.out.below⟩
  | cons t r =>
   have hl : i < l.length := by
    have := congrArg List.length hd
    rw [List.length_drop, List.length_cons] at this
    omega
   obtain ⟨ad, rfl, h0, h1⟩ := tok_cell hC hB hd
   have c1 : decide ((i : Int) < (l.length : Int)) = true := decide_eq_true (by omega)
   have c1n : decide (i < l.length) = true := decide_eq_true (by omega)
   have c2 : ((i : Int) < (l.length : Int)) = True := eq_true (by omega)
   have c3 : (i < l.length) = True := eq_true (by omega)
   have c5 : ((0 : Int) ≤ (i : Int)) = True := eq_true (by omega)
   have hsnoc : l.take (i + 1) = l.take i ++ [t] := by
    rw [List.take_succ_eq_append_getElem hl]
    congr 2
    have := List.getElem?_drop (xs := l) (i := i) (j := 0)
    rw [hd] at this
    simpa [List.getElem?_eq_getElem hl] using this.symm
   have HSN := hid hsnoc
   have HD := hid hd
   have hst := hid (stops_is (hS.ok t (List.mem_of_mem_drop (i := i) (by rw [hd]; exact List.mem_cons_self))))
   have HG := hid (H.out.globw)
   cases hq : Pl.stopT t with
   | false =>
    rw [hq] at hst
    clear hsnoc hd hb hC hR hB hS hM hG
    go_wp2_with (go_at_call 212; refine (mbx_stops.calls t.1 (Pl.str t.2) false wr HG.out hst.out).mono ?_; rintro e w' ⟨rfl, hb'⟩)
    go_roundw
    case rel => exact ⟨i + 1, by go_num, by omega, hid (by rw [HSN.out, List.all_append, HW.out]; simp [Pl.nonT, hq]), hid (H.out.keep hb')⟩
    case measure => simp [intOf]; omega
   | true =>
    rw [hq] at hst
    obtain ⟨Ab, cb, nb, rfl, hnb⟩ : ∃ Ab cb nb, v = .slice Ab nb cb ∧ Hid (nb = bx.length) := by
     obtain ⟨Ab, cb, e⟩ := Kd.R_slice hR
     exact ⟨Ab, cb, _, e, hid (List.length_map _)⟩
    have htw := hid (take_non HW.out (.inr ⟨t, r, HD.out, by unfold Pl.nonT; rw [hq]; rfl⟩))
    have hof := hid (fun W1 (hB1 : Below W0.heap.size W0 W1) => of_call hC hc hS i hi hB1)
    obtain ⟨⟨a, b, e0⟩, hres⟩ : ∃ x, Pl.ofT (l.take i) = x := ⟨_, rfl⟩
    rw [hres] at hof
    have hadr : Hid (Pl.addressM (Pl.bs nm) l bx = if e0 ≠ 0 then Pl.failM e0 else if bx.length = 100 then Pl.failM 8 else ((l.drop i, bx ++ [(Pl.bs nm, Pl.bs a, Pl.bs b)]), 0)) := by
     refine hid ?_
     unfold Pl.addressM
     rw [htw.out.1, htw.out.2, hres]
    have c6 : ((i : Int) ≤ (c : Int)) = True := eq_true (by omega)
    have c7 : (i ≤ c) = True := eq_true (by omega)
    have c8 : ((0 : Int) ≤ (i : Int)) = True := eq_true (by omega)
    have c9 : ((i : Int) ≤ (l.length : Int)) = True := eq_true (by omega)
    have c10 : (i ≤ l.length) = True := eq_true (by omega)
    have c11 : ((l.length : Int) ≤ (c : Int)) = True := eq_true (by omega)
    have c12 : (l.length ≤ c) = True := eq_true (by omega)
    have HBK := hid hb
    have hRlt := hid H.out.lt
    have hcc := hid hc
    have hii := hid hi
    have hzz := hid hz
    have HC := hid hC
    have HSM := hid hS
    have HMM := hid hM
    have HGG := hid hG
    clear hb hC hR hB hS hM hG hi hz hc hsnoc hd
    by_cases he : e0 = 0
    case neg =>
     have ce : (e0 != 0) = true := bne_iff_ne.2 he
     go_wp2_with (first
      | (go_at_call 212; refine (mbx_stops.calls t.1 (Pl.str t.2) true wr HG.out hst.out).mono ?_; rintro e w2 ⟨rfl, hb'⟩; have H2 := hid (H.out.keep hb'); have HBK2 := hid ((hb'.block W0.heap.size H.out.lt).trans HBK.out); have s0 := (blk_cell HBK2.out 0).trans rfl; clear hb')
      | (go_at_call 213; refine (hof.out _ H2.out.below).mono ?_; rintro e w5 ⟨rfl, b5⟩; have H5 := hid (H2.out.keep b5); have HBK5 := hid ((b5.block W0.heap.size H2.out.lt).trans HBK2.out))
      | ((with_reducible refine gate_dst (N := 6) rfl ?_); refine box_event ?hg (N := 6) ?hd (cs := #[.string (⟨#[]⟩ : ByteArray), .string (⟨#[]⟩ : ByteArray)]) (t := 30) ?hr ?_; (case hd => rfl); (case hg => rfl); (case hr => first | (go_simp; done) | (go_simp; rfl)); intro g hg w7 hbox hb; have b0 := (blk_cell hbox 0).trans rfl; have b1 := (blk_cell hbox 1).trans rfl; have bf0 := blk_frozen hbox 0; have bf1 := blk_frozen hbox 1; have H7 := hid (H5.out.keep hb); have HG7 := hid hg; have HL5 := hid H5.out.lt; clear hb hbox hg))
     go_ret
     refine ⟨?_, fun h0 => ?_, ?_⟩
     ·rw [hadr.out, if_pos he]; rfl
     ·rw [hadr.out, if_pos he] at h0; exact absurd h0 he
     exact (H7.out.below.setCell (p := ⟨g, 0, none⟩) (by show W0.heap.size ≤ g; have := HL5.out; have := HG7.out; omega) _).setCell (p := ⟨g, 1, none⟩) (by show W0.heap.size ≤ g; have := HL5.out; have := HG7.out; omega) _
    case pos =>
     subst he
     by_cases hn : nb = 100
     ·have cn : ((nb : Int) == 100) = true := beq_iff_eq.2 (by omega)
      have cn2 : (nb == 100) = true := beq_iff_eq.2 hn
      go_wp2_with (first
      | (go_at_call 212; refine (mbx_stops.calls t.1 (Pl.str t.2) true wr HG.out hst.out).mono ?_; rintro e w2 ⟨rfl, hb'⟩; have H2 := hid (H.out.keep hb'); have HBK2 := hid ((hb'.block W0.heap.size H.out.lt).trans HBK.out); have s0 := (blk_cell HBK2.out 0).trans rfl; clear hb')
       | (go_at_call 213; refine (hof.out _ H2.out.below).mono ?_; rintro e w5 ⟨rfl, b5⟩; have H5 := hid (H2.out.keep b5); have HBK5 := hid ((b5.block W0.heap.size H2.out.lt).trans HBK2.out))
       | ((with_reducible refine gate_dst (N := 6) rfl ?_); refine box_event ?hg (N := 6) ?hd (cs := #[.string (⟨#[]⟩ : ByteArray), .string (⟨#[]⟩ : ByteArray)]) (t := 30) ?hr ?_; (case hd => rfl); (case hg => rfl); (case hr => first | (go_simp; done) | (go_simp; rfl)); intro g hg w7 hbox hb; have b0 := (blk_cell hbox 0).trans rfl; have b1 := (blk_cell hbox 1).trans rfl; have bf0 := blk_frozen hbox 0; have bf1 := blk_frozen hbox 1; have HB57 := hid hb; have HG7k := hid hbox; have HBK7 := hid ((hb.block W0.heap.size H5.out.lt).trans HBK5.out); have H7 := hid (H5.out.keep hb); have HG7 := hid hg; have HL5 := hid H5.out.lt; have hne : ¬ W0.heap.size = g := (by have := HL5.out; omega); have r0 := (blk_cell HBK7.out 0).trans rfl; have r1 := (blk_cell HBK7.out 1).trans rfl; have rf0 := blk_frozen HBK7.out 0; have rf1 := blk_frozen HBK7.out 1; clear hb hbox hg))
      all_goals
       have hb100 : bx.length = 100 := by rw [← hnb.out]; exact hn
       have hal : Pl.addressM (Pl.bs nm) l bx = Pl.failM 8 := by rw [hadr.out, if_neg (by simp), if_pos hb100]
       go_ret
       rw [hal]
       exact ⟨rfl, fun h0 => absurd h0 (by decide), (((H5.out.keep ((HB57.out.setCell (p := ⟨g, 0, none⟩) (Nat.le_of_eq HG7.out.symm) (.string a)).setCell (p := ⟨g, 1, none⟩) (Nat.le_of_eq HG7.out.symm) (.string b))).below).setCell (p := ⟨W0.heap.size, 0, none⟩) (Nat.le_refl _) _)⟩
     have cn : ((nb : Int) == 100) = false := beq_eq_false_iff_ne.2 (by omega)
     have cn2 : (nb == 100) = false := beq_eq_false_iff_ne.2 hn
     go_wp2_with (first
     | (go_at_call 212; refine (mbx_stops.calls t.1 (Pl.str t.2) true wr HG.out hst.out).mono ?_; rintro e w2 ⟨rfl, hb'⟩; have H2 := hid (H.out.keep hb'); have HBK2 := hid ((hb'.block W0.heap.size H.out.lt).trans HBK.out); have s0 := (blk_cell HBK2.out 0).trans rfl; clear hb')
      | (go_at_call 213; refine (hof.out _ H2.out.below).mono ?_; rintro e w5 ⟨rfl, b5⟩; have H5 := hid (H2.out.keep b5); have HBK5 := hid ((b5.block W0.heap.size H2.out.lt).trans HBK2.out))
      | ((with_reducible refine gate_dst (N := 6) rfl ?_); refine box_event ?hg (N := 6) ?hd (cs := #[.string (⟨#[]⟩ : ByteArray), .string (⟨#[]⟩ : ByteArray)]) (t := 30) ?hr ?_; (case hd => rfl); (case hg => rfl); (case hr => first | (go_simp; done) | (go_simp; rfl)); intro g hg w7 hbox hb; have b0 := (blk_cell hbox 0).trans rfl; have b1 := (blk_cell hbox 1).trans rfl; have bf0 := blk_frozen hbox 0; have bf1 := blk_frozen hbox 1; have HB57 := hid hb; have HG7k := hid hbox; have HBK7 := hid ((hb.block W0.heap.size H5.out.lt).trans HBK5.out); have H7 := hid (H5.out.keep hb); have HG7 := hid hg; have HL5 := hid H5.out.lt; have hne : ¬ W0.heap.size = g := (by have := HL5.out; omega); have r0 := (blk_cell HBK7.out 0).trans rfl; have r1 := (blk_cell HBK7.out 1).trans rfl; have rf0 := blk_frozen HBK7.out 0; have rf1 := blk_frozen HBK7.out 1; clear hb hbox hg))
     all_goals
      have hgR : W0.heap.size < g := by have := HL5.out; have := HG7.out; omega
      have hnb100 : Hid (¬ bx.length = 100) := hid (by rw [← hnb.out]; exact hn)
      have HGp : Hid (((w7.setCell ⟨g, 0, none⟩ (.string a)).setCell ⟨g, 1, none⟩ (.string b)).heap[g]? = some (.cells #[.string a, .string b] 30 (0, 0))) := hid (blk_put (blk_put HG7k.out 0 _ rfl) 1 _ rfl)
      have HB7p : Hid (((w7.setCell ⟨g, 0, none⟩ (.string a)).setCell ⟨g, 1, none⟩ (.string b)).heap[W0.heap.size]? = some (.cells #[.slice (some ad) l.length c, .slice Ab nb cb] 178 (0, 0))) := hid ((Below.heap_setCell _ _ _ _ (by show W0.heap.size ≠ g; omega)).trans ((Below.heap_setCell _ _ _ _ (by show W0.heap.size ≠ g; omega)).trans HBK7.out))
      have H7p : Hid (RS W0 ((w7.setCell ⟨g, 0, none⟩ (.string a)).setCell ⟨g, 1, none⟩ (.string b)) l bx) := hid (H5.out.keep ((HB57.out.setCell (p := ⟨g, 0, none⟩) (Nat.le_of_eq HG7.out.symm) _).setCell (p := ⟨g, 1, none⟩) (Nat.le_of_eq HG7.out.symm) _))
      refine start_ (n := 13) (S := (fun w' => w'.cell? ⟨W0.heap.size, 1, none⟩ = some (.slice Ab nb cb) ∧ w'.cell? ⟨g, 0, none⟩ = some (.string a) ∧ w'.cell? ⟨g, 1, none⟩ = some (.string b))) (ds := [12]) #[false, false, false, false, false, false, false, false, false, false, false, false, false] (by kernel_rfl) rfl rfl ⟨(blk_cell (blk_drew (blk_put HB7p.out 0 _ rfl)) 1).trans rfl, (blk_cell (blk_drew ((Below.heap_setCell _ _ _ _ (by show g ≠ W0.heap.size; omega)).trans HGp.out)) 0).trans rfl, (blk_cell (blk_drew ((Below.heap_setCell _ _ _ _ (by show g ≠ W0.heap.size; omega)).trans HGp.out)) 1).trans rfl⟩ (fun hHeld => ?_); refine with_tabW mbx_address.tab mbx_address.bits (fun HT_ HW_ => ?_)
      generalize hW8 : World.drew _ = w8 at hHeld ⊢
      have H8 : Hid (RS W0 w8 (l.drop i) bx) := hid (by rw [← hW8]; exact (RS.cutW H7p.out HB7p.out i hii.out _ _ _ (by first | rfl | (simp [*]; done) | (simp [*]; rfl)) (by first | rfl | (simp; done) | omega) (by first | rfl | (simp; done) | omega)).keep (below_drew (Below.refl _ _)))
      have HB8 : Hid (∃ A' n' c', w8.heap[W0.heap.size]? = some (.cells #[.slice A' n' c', .slice Ab nb cb] 178 (0, 0))) := hid ⟨_, _, _, by rw [← hW8]; exact blk_drew (blk_put HB7p.out 0 _ rfl)⟩
      have HG8 : Hid (w8.heap[g]? = some (.cells #[.string a, .string b] 30 (0, 0))) := hid (by rw [← hW8]; exact blk_drew ((Below.heap_setCell _ _ _ _ (by show g ≠ W0.heap.size; omega)).trans HGp.out))
      clear hW8 b0 b1 bf0 bf1 r0 r1 rf0 rf1
      refine pure_ (i := 0) (N := some 56) (v := ?_) (a' := ?_) #[true, false, false, false, false, false, false, false, false, false, false, false, false] rfl rfl (any_of HT_.out (by kernel_rfl)) (fun _ _ _ h => h) (Or.inl ⟨by rfl, ?_⟩) ?_ ?_
      rotate_left
      ·intro w'
       go_simp
       with_reducible rfl
      rotate_left
      ·simp only [Act.put, List.setIfInBounds_toArray, List.set_cons_zero, List.set_cons_succ, i64_w, i32_w]
       rfl
      refine pure_ (i := 1) (N := some 57) (v := ?_) (a' := ?_) #[true, true, false, false, false, false, false, false, false, false, false, false, false] rfl rfl (any_of HT_.out (by kernel_rfl)) (fun _ _ _ h => h) (Or.inl ⟨by rfl, ?_⟩) ?_ ?_
      rotate_left
      ·intro w'
       go_simp
       with_reducible rfl
      rotate_left
      ·simp only [Act.put, List.setIfInBounds_toArray, List.set_cons_zero, List.set_cons_succ, i64_w, i32_w]
       rfl
      refine pure_ (i := 2) (N := some 58) (v := ?_) (a' := ?_) #[true, true, true, false, false, false, false, false, false, false, false, false, false] rfl rfl (any_of HT_.out (by kernel_rfl)) (fun _ _ _ h => h) (Or.inl ⟨by rfl, ?_⟩) ?_ ?_
      rotate_left
      ·intro w'
       go_simp
       with_reducible rfl
      rotate_left
      ·simp only [Act.put, List.setIfInBounds_toArray, List.set_cons_zero, List.set_cons_succ, i64_w, i32_w]
       rfl
      refine pure_ (i := 3) (N := some 59) (v := ?_) (a' := ?_) #[true, true, true, true, false, false, false, false, false, false, false, false, false] rfl rfl (any_of HT_.out (by kernel_rfl)) (fun _ _ _ h => h) (Or.inl ⟨by rfl, ?_⟩) ?_ ?_
      rotate_left
      ·intro w'
       go_simp
       with_reducible rfl
      rotate_left
      ·simp only [Act.put, List.setIfInBounds_toArray, List.set_cons_zero, List.set_cons_succ, i64_w, i32_w]
       rfl
      refine take_ (i := 4) (N := some 60) (v := ?_) (a' := ?_) #[true, true, true, true, true, false, false, false, false, false, false, false, false] rfl rfl (take_ofW HT_.out HW_.out (by kernel_rfl)) (fun _ _ _ h => h) (Or.inl ⟨by rfl, ?_⟩) hHeld ?_ ?_
      rotate_left
      ·rintro w' ⟨s0, s1, s2⟩
       go_simp
       with_reducible rfl
      rotate_left
      ·simp only [Act.put, List.setIfInBounds_toArray, List.set_cons_zero, List.set_cons_succ, i64_w, i32_w]
       rfl
      refine pure_ (i := 5) (N := some 61) (v := ?_) (a' := ?_) #[true, true, true, true, true, true, false, false, false, false, false, false, false] rfl rfl (any_of HT_.out (by kernel_rfl)) (fun _ _ _ h => h) (Or.inl ⟨by rfl, ?_⟩) ?_ ?_
      rotate_left
      ·intro w'
       go_simp
       with_reducible rfl
      rotate_left
      ·simp only [Act.put, List.setIfInBounds_toArray, List.set_cons_zero, List.set_cons_succ, i64_w, i32_w]
       rfl
      refine take_ (i := 6) (N := some 62) (v := ?_) (a' := ?_) #[true, true, true, true, true, true, true, false, false, false, false, false, false] rfl rfl (take_ofW HT_.out HW_.out (by kernel_rfl)) (fun _ _ _ h => h) (Or.inl ⟨by rfl, ?_⟩) hHeld ?_ ?_
      rotate_left
      ·rintro w' ⟨s0, s1, s2⟩
       go_simp
       with_reducible rfl
      rotate_left
      ·simp only [Act.put, List.setIfInBounds_toArray, List.set_cons_zero, List.set_cons_succ, i64_w, i32_w]
       rfl
      refine pure_ (i := 7) (N := some 63) (v := ?_) (a' := ?_) #[true, true, true, true, true, true, true, true, false, false, false, false, false] rfl rfl (any_of HT_.out (by kernel_rfl)) (fun _ _ _ h => h) (Or.inl ⟨by rfl, ?_⟩) ?_ ?_
      rotate_left
      ·intro w'
       go_simp
       with_reducible rfl
      rotate_left
      ·simp only [Act.put, List.setIfInBounds_toArray, List.set_cons_zero, List.set_cons_succ, i64_w, i32_w]
       rfl
      refine one_ (i := 8) (N := some 64) #[true, true, true, true, true, true, true, true, true, false, false, false, false] rfl rfl (one_of HT_.out (by kernel_rfl)) (by decide) (fun K hK => ?_)
      refine value_ (w1 := ?_) (v := ?_) (by rfl) rfl ?_ ?_
      rotate_left 2
      ·go_simp
       constructor
       ·rfl
       rfl
      refine hK.out _ _ ⟨(blk_cell (blk_alloc (show w8.heap[W0.heap.size]? = some (.cells #[.slice _ _ _, .slice Ab nb cb] _ (0, 0)) from HB8.out.choose_spec.choose_spec.choose_spec) (.cells #[.string nm, .string a, .string b] 91)) 1).trans rfl, (blk_cell (blk_alloc HG8.out (.cells #[.string nm, .string a, .string b] 91)) 0).trans rfl, (blk_cell (blk_alloc HG8.out (.cells #[.string nm, .string a, .string b] 91)) 1).trans rfl⟩ (fun hHeld3 => ?_)
      clear hK K
      refine norm_ (a' := ?_) ?_ ?_
      rotate_left
      ·show Act.put _ (some 64) _ = _
       simp only [Act.put, List.setIfInBounds_toArray, List.set_cons_zero, List.set_cons_succ, i64_w, i32_w]
       rfl
      refine one_ (i := 9) (N := some 65) #[true, true, true, true, true, true, true, true, true, true, false, false, false] rfl rfl (one_of HT_.out (by kernel_rfl)) (by decide) (fun K hK => ?_)
      have hRb : Kd.R k91 91 w8 (W0.heap.size + 1) (fun _ => True) (.slice Ab nb cb) (bx.map toBox) := by
       obtain ⟨A', n', c', h1⟩ := HB8.out
       exact H8.out.boxes h1
      refine Kd.R_append_step k91 (w0 := w8) (W0.heap.size + 1) (by rfl) (.tmp 60) (.tmp 64) 156 91 (.agg #[(.string ⟨#[]⟩), (.string ⟨#[]⟩), (.string ⟨#[]⟩)]) 48 rfl Tryz.underlying156 info_mbxBox rfl (by decide) (by omega) (.slice Ab nb cb) (bx.map toBox) (⟨nm, ⟨a, b⟩⟩ : S91) [.string nm, .string a, .string b] (fun _ => True) (fun _ => False) rfl rfl (k91_mkM _ _ _ _) (fun _ hk => hk.elim) (fun _ _ => trivial) hRb (Below.refl _ _) H8.out.lt (by rw [List.length_map]; have := HMM.out; omega) ?_
      intro v1 w9 ho hb9 hg9 hat9
      obtain ⟨Av, nv, cv, rfl⟩ : ∃ Av nv cv, v1 = .slice Av nv cv := by
       obtain ⟨Av, cv, e⟩ := Kd.R_slice ho
       exact ⟨Av, _, cv, e⟩
      have HB9 : Hid (∃ A' n' c', w9.heap[W0.heap.size]? = some (.cells #[.slice A' n' c', .slice Ab nb cb] 178 (0, 0))) := by
       obtain ⟨A', n', c', h1⟩ := HB8.out
       exact hid ⟨A', n', c', (hb9.block W0.heap.size (Nat.lt_succ_self _)).trans h1⟩
      have HG9 := hid ((hg9.block g (blk_lt HG8.out) (Kd.R_ne hRb HG8.out (by decide))).trans HG8.out)
      have HFIN := hid (H8.out.grow hb9 ho hnb100.out)
      refine hK.out _ _ ⟨(blk_cell HB9.out.choose_spec.choose_spec.choose_spec 1).trans rfl, (blk_cell HG9.out 0).trans rfl, (blk_cell HG9.out 1).trans rfl⟩ (fun hHeld4 => ?_)
      clear hK K hRb ho hb9 hg9 hat9
      refine norm_ (a' := ?_) ?_ ?_
      rotate_left
      ·show Act.put _ (some 65) _ = _
       simp only [Act.put, List.setIfInBounds_toArray, List.set_cons_zero, List.set_cons_succ, i64_w, i32_w]
       rfl
      refine pure_ (i := 10) (N := some 66) (v := ?_) (a' := ?_) #[true, true, true, true, true, true, true, true, true, true, true, false, false] rfl rfl (any_of HT_.out (by kernel_rfl)) (fun _ _ _ h => h) (Or.inl ⟨by rfl, ?_⟩) ?_ ?_
      rotate_left
      ·intro w'
       go_simp
       with_reducible rfl
      rotate_left
      ·simp only [Act.put, List.setIfInBounds_toArray, List.set_cons_zero, List.set_cons_succ, i64_w, i32_w]
       rfl
      refine pure_ (i := 11) (N := some 67) (v := ?_) (a' := ?_) #[true, true, true, true, true, true, true, true, true, true, true, true, false] rfl rfl (any_of HT_.out (by kernel_rfl)) (fun _ _ _ h => h) (Or.inl ⟨by rfl, ?_⟩) ?_ ?_
      rotate_left
      ·intro w'
       go_simp
       with_reducible rfl
      rotate_left
      ·simp only [Act.put, List.setIfInBounds_toArray, List.set_cons_zero, List.set_cons_succ, i64_w, i32_w]
       rfl
      have t1 := (blk_cell HB9.out.choose_spec.choose_spec.choose_spec 1).trans rfl
      have tf1 := blk_frozen HB9.out.choose_spec.choose_spec.choose_spec 1
      refine last_ (i := 12) (N := none) #[true, true, true, true, true, true, true, true, true, true, true, true, true] rfl rfl (one_of HT_.out (by kernel_rfl)) (by decide) (fun K hK => ?_)
      refine skip_ (w1 := w9.setCell ⟨W0.heap.size, 1, none⟩ (.slice Av nv cv)) (by rfl) rfl ?_ ?_
      ·go_simp
      refine hK.out _ _ ?_
      clear hK K
      refine done_ (done_of HT_.out (by kernel_rfl)) ?_
      go_wp2
      go_ret
      have hal : Pl.addressM (Pl.bs nm) l bx = ((l.drop i, bx ++ [(Pl.bs nm, Pl.bs a, Pl.bs b)]), 0) := by rw [hadr.out, if_neg (by simp), if_neg hnb100.out]
      rw [hal]
      exact ⟨rfl, fun _ => HFIN.out, HFIN.out.below⟩
end Go.Proofs.YtcndmhpeolbepaaGreatDoor.Fn
