/- The law bulletinlaw13.AddrBack returns true for every input: any local part and domain are a right address just if it is read, as it is, of its text, and then it is so strictly too, and of its key but for capital letters; the tables of unicode/utf8 are as the program's text lays them. -/
import Derived.Test.YtlomcmdbbnbciaaDoorCAddrBack3
import Derived.Test.YtlomcmdbbnbciaaDoorRows
import Derived.HandedShaped
import Derived.LaidLaws
import Derived.LaidHandle
import Derived.Deep.DeepLaidRun
import Derived.Stop.Joined
import Derived.PinnedBridge
import Derived.Lib.LaidU8
import Derived.ProofKit
import Derived.Test.YtlomcmdbbnbciaaDoorTie
import Derived.Test.YtlomcmdbbnbciaaDoorCards
import Derived.WalkKit
import Derived.OpenShut
import Derived.ShutString
import Derived.ChangeOld
import Derived.Below
import Derived.SizedLaws
import Derived.Lib.SmallJoins
import Derived.SevenTiedAt
set_option linter.unusedVariables false
namespace Go.Proofs.YtlomcmdbbnbciaaDoor.Pl
open Go.RowKit Go.Proofs.YtlomcmdbbnbciaaDoorW.PrintWords Go.Proofs.YtlomcmdbbnbciaaDoor.Fn

/-! Layer 12, the program's: its Scan is the same machine. -/
set_option maxRecDepth 100000 in
theorem lexsign_is (c : UInt8) : lex_sign.f (c.toNat : Int) = some (signB c) := forall_byte (p := fun c => lex_sign.f (c.toNat : Int) = some (signB c)) (by decide +kernel) c
set_option maxRecDepth 100000 in
theorem lexwhite_is (c : UInt8) : lex_white.f (c.toNat : Int) = some (whiteB c) := forall_byte (p := fun c => lex_white.f (c.toNat : Int) = some (whiteB c)) (by decide +kernel) c
set_option maxRecDepth 100000 in
theorem atomic_apart (c : UInt8) : atomic c = true → c ≠ 13 ∧ c ≠ 40 ∧ c ≠ 34 ∧ c ≠ 32 ∧ c ≠ 9 ∧ signB c = false := forall_byte (p := fun c => atomic c = true → c ≠ 13 ∧ c ≠ 40 ∧ c ≠ 34 ∧ c ≠ 32 ∧ c ≠ 9 ∧ signB c = false) (by decide +kernel) c
set_option maxRecDepth 100000 in
theorem white_apart (c : UInt8) : whiteB c = true → c ≠ 13 ∧ c ≠ 40 ∧ c ≠ 34 ∧ atomic c = false ∧ signB c = false := forall_byte (p := fun c => whiteB c = true → c ≠ 13 ∧ c ≠ 40 ∧ c ≠ 34 ∧ atomic c = false ∧ signB c = false) (by decide +kernel) c
theorem fold_not {c : UInt8} (h : c ≠ 13) (l : Bytes) : foldAt (c :: l) = false := by
  cases l with
  | nil => rfl
  | cons b l =>
    cases l with
    | nil => rfl
    | cons e l => simp only [foldAt]; simp [h]
theorem lexfold_is (s : ByteArray) (hs : s.size ≤ 1000000) : lex_fold.f s = some (foldAt (bs s)) := by
  have hlen := bs_length s
  unfold lex_fold.f
  cases hb : bs s with
  | nil =>
    rw [hb] at hlen
    simp only [List.length_nil] at hlen
    rw [if_neg (by omega)]; rfl
  | cons a l =>
    have h0 : (bs s).drop 0 = a :: l := by simpa using hb
    cases l with
    | nil =>
      rw [hb] at hlen
      simp only [List.length_cons, List.length_nil] at hlen
      rw [if_neg (by omega)]; rfl
    | cons b l =>
      have h1 : (bs s).drop 1 = b :: l := (drop_cons h0).2.2.1
      cases l with
      | nil =>
        rw [hb] at hlen
        simp only [List.length_cons, List.length_nil] at hlen
        rw [if_neg (by omega)]; rfl
      | cons c l =>
        have h2 : (bs s).drop 2 = c :: l := (drop_cons h1).2.2.1
        rw [hb] at hlen
        simp only [List.length_cons] at hlen
        have e0 : bt s 0 = (a.toNat : Int) := bt_drop h0
        have e1 : bt s 1 = (b.toNat : Int) := bt_drop h1
        have e2 : bt s 2 = (c.toNat : Int) := bt_drop h2
        rw [if_pos (by omega), if_pos (by omega), e0]
        by_cases a13 : a = 13
        · rw [if_pos (by rw [a13]; rfl), if_pos (by omega), e1]
          by_cases b10 : b = 10
          · rw [if_pos (by rw [b10]; rfl), if_pos (by omega), e2, lexwhite_is, a13, b10]
            simp [foldAt]
          · rw [if_neg (c := (b.toNat : Int) = 10) (fun h => b10 ((byte_ofNat b 10 (by decide)).1 h))]
            simp [foldAt, b10]
        · rw [if_neg (c := (a.toNat : Int) = 13) (fun h => a13 ((byte_ofNat a 13 (by decide)).1 h))]
          simp [foldAt, a13]
def escL : Bytes → Int
  | [] => 9
  | c :: _ => if text c = true then 0 else 3
theorem lexescaped_is (s : ByteArray) : lex_escaped.f s = some (escL (bs s)) := by
  unfold lex_escaped.f
  rw [toList_bs]
  cases hb : bs s with
  | nil => rw [if_pos rfl]; rfl
  | cons c l =>
    have hlen := bs_length s
    rw [hb] at hlen
    simp only [List.length_cons] at hlen
    have e0 : bt s 0 = (c.toNat : Int) := bt_drop (s := s) (i := 0) (by simpa using hb)
    rw [if_neg (by simp), if_pos (by omega), e0, text_is, Option.bind_some]
    show (if text c = true then some (0 : Int) else some 3) = some (if text c = true then 0 else 3)
    cases text c <;> rfl
theorem bs_rest (s : ByteArray) (i : Nat) : bs (s.extract i s.size) = (bs s).drop i := by
  rw [bs_extract, List.take_of_length_le (by rw [bs_length]; exact Nat.le_refl _)]
theorem str_rest (s : ByteArray) (i : Nat) : s.extract i s.size = str ((bs s).drop i) := by
  apply bs_inj
  rw [bs_rest, bs_str]
def QuotSays (s : ByteArray) (k i : Nat) (w l : Bytes) : Prop :=
  (∃ w' r, lex_quoted.l0 k s (numsOf w) (i : Int) = some (2, str w', str r, 0) ∧ r.length ≤ l.length ∧ ∀ acc, scanL acc (.quot w false) l = scanL (acc ++ [(2, w')]) .out r) ∨
  (∃ e, e ≠ 0 ∧ lex_quoted.l0 k s (numsOf w) (i : Int) = some (0, str [], str [], e) ∧ ∀ acc, scanL acc (.quot w false) l = ([], e))
theorem QuotSays.le {s : ByteArray} {k k' i i' : Nat} {w w' l l' : Bytes} (h : QuotSays s k i w l) (hk : lex_quoted.l0 k' s (numsOf w') (i' : Int) = lex_quoted.l0 k s (numsOf w) (i : Int)) (hl : l.length ≤ l'.length) (hs : ∀ acc, scanL acc (.quot w' false) l' = scanL acc (.quot w false) l) : QuotSays s k' i' w' l' := by
  rcases h with ⟨a, r, h1, h2, h3⟩ | ⟨e, h1, h2, h3⟩
  · exact .inl ⟨a, r, hk.trans h1, by omega, fun acc => (hs acc).trans (h3 acc)⟩
  · exact .inr ⟨e, h1, hk.trans h2, fun acc => (hs acc).trans (h3 acc)⟩
theorem lexquoted_l0 (s : ByteArray) (hs : s.size ≤ 1000000) : ∀ (n k i : Nat) (w l : Bytes), l.length ≤ n → n + 1 ≤ k → (bs s).drop i = l → i ≤ (bs s).length → w.length ≤ i → QuotSays s k i w l
  | n, k, i, w, [], hn, hk, hd, hi, hw => by
    obtain ⟨k, rfl⟩ : ∃ j, k = j + 1 := ⟨k - 1, by omega⟩
    have := drop_nil hd
    rw [bs_length] at this hi
    refine .inr ⟨9, by decide, ?_, fun acc => rfl⟩
    rw [lex_quoted.l0, if_neg (by omega)]
    rfl
  | 0, k, i, w, c :: l, hn, hk, hd, hi, hw => by simp at hn
  | n + 1, k, i, w, c :: l, hn, hk, hd, hi, hw => by
    obtain ⟨k, rfl⟩ : ∃ j, k = j + 1 := ⟨k - 1, by omega⟩
    obtain ⟨h1, h2, h3, h4⟩ := drop_cons hd
    have h5 : i < s.size := by rw [bs_length] at h1; exact h1
    simp only [List.length_cons] at hn
    have e1 : wrap64 ((i : Int) + 1) = ((i + 1 : Nat) : Int) := wrap_succ i (by omega)
    have e2 : wrap64 (wrap64 ((i : Int) + 1) + 1) = ((i + 2 : Nat) : Int) := by rw [e1, wrap_succ (i + 1) (by omega)]
    have hl0 : ∀ X : Option (Int × ByteArray × ByteArray × Int), X = lex_quoted.l0 (k + 1) s (numsOf w) (i : Int) → lex_quoted.l0 (k + 1) s (numsOf w) (i : Int) = X := fun X h => h.symm
    have hstart : lex_quoted.l0 (k + 1) s (numsOf w) (i : Int) = (if foldAt (c :: l) = true then (lex_quoted.l0 k s (numsOf w) ((i + 2 : Nat) : Int)) else (if (c.toNat : Int) = 92 then (if escL l = 0 then (lex_quoted.l0 k s (numsOf w ++ [bt s ((i + 1 : Nat) : Int)]) ((i + 2 : Nat) : Int)) else some (0, (⟨#[]⟩ : ByteArray), (⟨#[]⟩ : ByteArray), escL l)) else (if (c.toNat : Int) = 34 then some (2, strOfNums (numsOf w), str l, 0) else (if text c = true then lex_quoted.l0 k s (numsOf w ++ [(c.toNat : Int)]) ((i + 1 : Nat) : Int) else some (0, (⟨#[]⟩ : ByteArray), (⟨#[]⟩ : ByteArray), 3))))) := by
      rw [lex_quoted.l0, if_pos (by omega), if_pos (by omega), if_pos (by omega)]
      simp only [Int.toNat_natCast]
      rw [lexfold_is _ (by simp only [ByteArray.size_extract]; omega), bs_rest, hd, Option.bind_some]
      cases hf : foldAt (c :: l) with
      | true => rw [if_pos rfl, if_pos rfl, e2]
      | false =>
        rw [if_neg (c := false = true) (by decide), if_neg (c := false = true) (by decide), bt_drop hd]
        by_cases c92 : (c.toNat : Int) = 92
        · rw [if_pos c92, if_pos c92, e1, if_pos (by omega), if_pos (by omega)]
          simp only [Int.toNat_natCast]
          rw [lexescaped_is, bs_rest, h3, Option.bind_some]
          by_cases he : escL l = 0
          · rw [if_pos he, if_pos he]
            have hne : i + 1 < s.size := by
              rcases Nat.lt_or_ge (i + 1) s.size with q | q
              · exact q
              · have : l = [] := by rw [← h3]; exact List.drop_of_length_le (by rw [bs_length]; exact q)
                rw [this] at he; cases he
            rw [if_pos (by omega), if_pos (by rw [numsOf_length]; omega), wrap_succ (i + 1) (by omega)]
          · rw [if_neg he, if_neg he]
        · rw [if_neg c92, if_neg c92]
          by_cases c34 : (c.toNat : Int) = 34
          · rw [if_pos c34, if_pos c34, e1, if_pos (by omega), if_pos (by omega)]
            simp only [Int.toNat_natCast]
            rw [str_rest, h3]
          · rw [if_neg c34, if_neg c34, text_is, Option.bind_some]
            cases ht : text c with
            | true => rw [if_pos rfl, if_pos rfl, if_pos (by rw [numsOf_length]; omega), e1]
            | false => rw [if_neg (c := false = true) (by decide), if_neg (c := false = true) (by decide)]
    cases hf : foldAt (c :: l) with
    | true =>
      obtain ⟨t1, t2, t3⟩ := tail_drop hd hf
      rw [hf, if_pos rfl] at hstart
      refine (lexquoted_l0 s hs n k (i + 2) w l.tail (by omega) (by omega) t1 t2 (by omega)).le hstart (by simp; omega) (fun acc => ?_)
      rw [scanL_cons]
      unfold step
      simp only []
      rw [hf, if_pos rfl]
    | false =>
      rw [hf, if_neg (by decide)] at hstart
      by_cases c92 : c = 92
      · rw [if_pos (by rw [c92]; rfl)] at hstart
        have hst : ∀ acc, scanL acc (.quot w false) (c :: l) = scanL acc (.quot w true) l := by
          intro acc
          rw [scanL_cons]
          unfold step
          simp only []
          rw [hf, if_neg (by decide), if_pos c92]
        cases hl : l with
        | nil =>
          rw [hl] at hstart
          refine .inr ⟨9, by decide, hstart.trans rfl, fun acc => ?_⟩
          rw [← hl, hst, hl]
          rfl
        | cons x l2 =>
          have hdx : (bs s).drop (i + 1) = x :: l2 := by rw [h3, hl]
          obtain ⟨g1, g2, g3, g4⟩ := drop_cons hdx
          have hsx : ∀ acc, scanL acc (.quot w false) (c :: x :: l2) = if text x = true then scanL acc (.quot (w ++ [x]) false) l2 else ([], 3) := by
            intro acc
            rw [← hl, hst, hl, scanL_cons]
            unfold step
            cases text x <;> rfl
          rw [hl] at hstart hn
          simp only [List.length_cons] at hn
          cases ht : text x with
          | true =>
            rw [show escL (x :: l2) = 0 by show (if text x = true then (0 : Int) else 3) = 0; rw [ht]; rfl, if_pos rfl, bt_drop hdx, show numsOf w ++ [(x.toNat : Int)] = numsOf (w ++ [x]) by simp [numsOf]] at hstart
            refine (lexquoted_l0 s hs n k (i + 2) (w ++ [x]) l2 (by omega) (by omega) g3 (by omega) (by simp; omega)).le hstart (by simp; omega) (fun acc => ?_)
            rw [hsx, ht, if_pos rfl]
          | false =>
            rw [show escL (x :: l2) = 3 by show (if text x = true then (0 : Int) else 3) = 3; rw [ht]; rfl, if_neg (by decide)] at hstart
            exact .inr ⟨3, by decide, hstart, fun acc => by rw [hsx, ht]; rfl⟩
      · rw [if_neg (c := (c.toNat : Int) = 92) (fun h => c92 ((byte_ofNat c 92 (by decide)).1 h))] at hstart
        by_cases c34 : c = 34
        · rw [if_pos (by rw [c34]; rfl), strOfNums_of] at hstart
          refine .inl ⟨w, l, hstart, by simp, fun acc => ?_⟩
          rw [scanL_cons]
          unfold step
          simp only []
          rw [hf, if_neg (by decide), if_neg c92, if_pos (by rw [c34]; exact text_34), if_pos c34]
        · rw [if_neg (c := (c.toNat : Int) = 34) (fun h => c34 ((byte_ofNat c 34 (by decide)).1 h))] at hstart
          cases ht : text c with
          | true =>
            rw [ht, if_pos rfl, show numsOf w ++ [(c.toNat : Int)] = numsOf (w ++ [c]) by simp [numsOf]] at hstart
            refine (lexquoted_l0 s hs n k (i + 1) (w ++ [c]) l (by omega) (by omega) h3 (by omega) (by simp; omega)).le hstart (by simp) (fun acc => ?_)
            rw [scanL_cons]
            unfold step
            simp only []
            rw [hf, ht, if_neg (by decide), if_neg c92, if_pos rfl, if_neg c34]
          | false =>
            rw [ht, if_neg (by decide)] at hstart
            refine .inr ⟨3, by decide, hstart, fun acc => ?_⟩
            rw [scanL_cons]
            unfold step
            simp only []
            rw [hf, ht, if_neg (by decide), if_neg c92, if_neg (by decide)]

def CommSays (s : ByteArray) (k i m : Nat) (l : Bytes) : Prop :=
  (∃ r, lex_comment.l0 k s (m : Int) (i : Int) = some (str r, 0) ∧ r.length ≤ l.length ∧ ∀ acc, scanL acc (.comm m false) l = scanL acc .out r) ∨
  (∃ e, e ≠ 0 ∧ lex_comment.l0 k s (m : Int) (i : Int) = some (str [], e) ∧ ∀ acc, scanL acc (.comm m false) l = ([], e))
theorem CommSays.le {s : ByteArray} {k k' i i' m m' : Nat} {l l' : Bytes} (h : CommSays s k i m l) (hk : lex_comment.l0 k' s (m' : Int) (i' : Int) = lex_comment.l0 k s (m : Int) (i : Int)) (hl : l.length ≤ l'.length) (hs : ∀ acc, scanL acc (.comm m' false) l' = scanL acc (.comm m false) l) : CommSays s k' i' m' l' := by
  rcases h with ⟨r, h1, h2, h3⟩ | ⟨e, h1, h2, h3⟩
  · exact .inl ⟨r, hk.trans h1, by omega, fun acc => (hs acc).trans (h3 acc)⟩
  · exact .inr ⟨e, h1, hk.trans h2, fun acc => (hs acc).trans (h3 acc)⟩
theorem text_40 : text 40 = true := by decide +kernel
theorem text_41 : text 41 = true := by decide +kernel
theorem lexcomment_l0 (s : ByteArray) (hs : s.size ≤ 1000000) : ∀ (n k i m : Nat) (l : Bytes), l.length ≤ n → 3 * n + 3 ≤ k → (bs s).drop i = l → i ≤ (bs s).length → 1 ≤ m → m ≤ 16 → CommSays s k i m l
  | n, k, i, m, [], hn, hk, hd, hi, hm1, hm2 => by
    obtain ⟨k, rfl⟩ : ∃ j, k = j + 1 := ⟨k - 1, by omega⟩
    have := drop_nil hd
    rw [bs_length] at this hi
    refine .inr ⟨9, by decide, ?_, fun acc => rfl⟩
    rw [lex_comment.l0, if_neg (by omega), if_pos (by omega)]
    rfl
  | 0, k, i, m, c :: l, hn, hk, hd, hi, hm1, hm2 => by simp at hn
  | n + 1, k, i, m, c :: l, hn, hk, hd, hi, hm1, hm2 => by
    obtain ⟨k, rfl⟩ : ∃ j, k = j + 3 := ⟨k - 3, by omega⟩
    obtain ⟨h1, h2, h3, h4⟩ := drop_cons hd
    have h5 : i < s.size := by rw [bs_length] at h1; exact h1
    simp only [List.length_cons] at hn
    have e1 : wrap64 ((i : Int) + 1) = ((i + 1 : Nat) : Int) := wrap_succ i (by omega)
    have e2 : wrap64 (wrap64 ((i : Int) + 1) + 1) = ((i + 2 : Nat) : Int) := by rw [e1, wrap_succ (i + 1) (by omega)]
    have hstart : lex_comment.l0 (k + 3) s (m : Int) (i : Int) = (if foldAt (c :: l) = true then (lex_comment.l0 (k + 2) s (m : Int) ((i + 2 : Nat) : Int)) else (if (c.toNat : Int) = 92 then (if escL l = 0 then (lex_comment.l0 (k + 2) s (m : Int) ((i + 2 : Nat) : Int)) else some ((⟨#[]⟩ : ByteArray), escL l)) else (if (c.toNat : Int) = 40 then lex_comment.j1 (k + 2) s (m : Int) (i : Int) (c.toNat : Int) ((m : Int) == 16) else lex_comment.j1 (k + 2) s (m : Int) (i : Int) (c.toNat : Int) false))) := by
      rw [lex_comment.l0, if_pos (by omega), if_pos (by omega), if_pos (by omega)]
      simp only [Int.toNat_natCast]
      rw [lexfold_is _ (by simp only [ByteArray.size_extract]; omega), bs_rest, hd, Option.bind_some]
      cases hf : foldAt (c :: l) with
      | true => rw [if_pos rfl, if_pos rfl, e2]
      | false =>
        rw [if_neg (c := false = true) (by decide), if_neg (c := false = true) (by decide), bt_drop hd]
        by_cases c92 : (c.toNat : Int) = 92
        · rw [if_pos c92, if_pos c92, e1, if_pos (by omega), if_pos (by omega)]
          simp only [Int.toNat_natCast]
          rw [lexescaped_is, bs_rest, h3, Option.bind_some, wrap_succ (i + 1) (by omega)]
        · rw [if_neg c92, if_neg c92]
    cases hf : foldAt (c :: l) with
    | true =>
      obtain ⟨t1, t2, t3⟩ := tail_drop hd hf
      rw [hf, if_pos rfl] at hstart
      refine (lexcomment_l0 s hs n (k + 2) (i + 2) m l.tail (by omega) (by omega) t1 t2 hm1 hm2).le hstart (by simp; omega) (fun acc => ?_)
      rw [scanL_cons]
      unfold step
      simp only []
      rw [hf, if_pos rfl]
    | false =>
      rw [hf, if_neg (by decide)] at hstart
      by_cases c92 : c = 92
      · rw [if_pos (by rw [c92]; rfl)] at hstart
        have hst : ∀ acc, scanL acc (.comm m false) (c :: l) = scanL acc (.comm m true) l := by
          intro acc
          rw [scanL_cons]
          unfold step
          simp only []
          rw [hf, if_neg (by decide), if_pos c92]
        cases hl : l with
        | nil =>
          rw [hl] at hstart
          refine .inr ⟨9, by decide, hstart.trans rfl, fun acc => ?_⟩
          rw [← hl, hst, hl]
          rfl
        | cons x l2 =>
          have hdx : (bs s).drop (i + 1) = x :: l2 := by rw [h3, hl]
          obtain ⟨g1, g2, g3, g4⟩ := drop_cons hdx
          have hsx : ∀ acc, scanL acc (.comm m false) (c :: x :: l2) = if text x = true then scanL acc (.comm m false) l2 else ([], 3) := by
            intro acc
            rw [← hl, hst, hl, scanL_cons]
            unfold step
            cases text x <;> rfl
          rw [hl] at hstart hn
          simp only [List.length_cons] at hn
          cases ht : text x with
          | true =>
            rw [show escL (x :: l2) = 0 by show (if text x = true then (0 : Int) else 3) = 0; rw [ht]; rfl, if_pos rfl] at hstart
            refine (lexcomment_l0 s hs n (k + 2) (i + 2) m l2 (by omega) (by omega) g3 (by omega) hm1 hm2).le hstart (by simp; omega) (fun acc => ?_)
            rw [hsx, ht, if_pos rfl]
          | false =>
            rw [show escL (x :: l2) = 3 by show (if text x = true then (0 : Int) else 3) = 3; rw [ht]; rfl, if_neg (by decide)] at hstart
            exact .inr ⟨3, by decide, hstart, fun acc => by rw [hsx, ht]; rfl⟩
      · rw [if_neg (c := (c.toNat : Int) = 92) (fun h => c92 ((byte_ofNat c 92 (by decide)).1 h))] at hstart
        have hst : text c = true → ∀ acc, scanL acc (.comm m false) (c :: l) = (match commAfter acc (if c = 40 then m + 1 else if c = 41 then m - 1 else m) l with | .inl (a, t, r) => scanL a t r | .inr e => ([], e)) := by
          intro ht acc
          rw [scanL_cons]
          unfold step
          simp only []
          rw [hf, ht, if_neg (by decide), if_neg c92, if_pos rfl]
          all_goals rfl
        by_cases c40 : c = 40
        · have ht : text c = true := by rw [c40]; exact text_40
          rw [if_pos (by rw [c40]; rfl), lex_comment.j1] at hstart
          by_cases h16 : m = 16
          · rw [show ((m : Int) == 16) = true by rw [h16]; rfl, if_pos rfl] at hstart
            refine .inr ⟨1, by decide, hstart, fun acc => ?_⟩
            rw [hst ht, if_pos c40]
            unfold commAfter
            rw [if_pos (by omega)]
          · rw [show ((m : Int) == 16) = false by rw [beq_eq_false_iff_ne]; omega, if_neg (by decide), if_pos (by rw [c40]; rfl), e1, wrap_id (by omega) (by omega), show ((m : Int) + 1) = ((m + 1 : Nat) : Int) by omega] at hstart
            refine (lexcomment_l0 s hs n (k + 1) (i + 1) (m + 1) l (by omega) (by omega) h3 (by omega) (by omega) (by omega)).le hstart (by simp) (fun acc => ?_)
            rw [hst ht, if_pos c40]
            unfold commAfter
            rw [if_neg (by omega), if_neg (by omega)]
        · rw [if_neg (c := (c.toNat : Int) = 40) (fun h => c40 ((byte_ofNat c 40 (by decide)).1 h)), lex_comment.j1, if_neg (by decide), if_neg (c := (c.toNat : Int) = 40) (fun h => c40 ((byte_ofNat c 40 (by decide)).1 h))] at hstart
          by_cases c41 : c = 41
          · have ht : text c = true := by rw [c41]; exact text_41
            rw [if_pos (by rw [c41]; rfl), lex_comment.j2] at hstart
            by_cases h1' : m = 1
            · rw [show ((m : Int) == 1) = true by rw [h1']; rfl, if_pos rfl, e1, if_pos (by omega), if_pos (by omega), if_neg (by decide)] at hstart
              simp only [Int.toNat_natCast] at hstart
              rw [str_rest, h3] at hstart
              refine .inl ⟨l, hstart, by simp, fun acc => ?_⟩
              rw [hst ht, if_neg c40, if_pos c41, h1']
              rfl
            · rw [show ((m : Int) == 1) = false by rw [beq_eq_false_iff_ne]; omega, if_neg (by decide), if_pos (by rw [c41]; rfl), e1, wrap_id (by omega) (by omega), show ((m : Int) - 1) = ((m - 1 : Nat) : Int) by omega] at hstart
              refine (lexcomment_l0 s hs n k (i + 1) (m - 1) l (by omega) (by omega) h3 (by omega) (by omega) (by omega)).le hstart (by simp) (fun acc => ?_)
              rw [hst ht, if_neg c40, if_pos c41]
              unfold commAfter
              rw [if_neg (by omega), if_neg (by omega)]
          · rw [if_neg (c := (c.toNat : Int) = 41) (fun h => c41 ((byte_ofNat c 41 (by decide)).1 h)), lex_comment.j2, if_neg (by decide), if_neg (c := (c.toNat : Int) = 41) (fun h => c41 ((byte_ofNat c 41 (by decide)).1 h)), text_is, Option.bind_some] at hstart
            cases ht : text c with
            | true =>
              rw [ht, if_pos rfl, e1] at hstart
              refine (lexcomment_l0 s hs n k (i + 1) m l (by omega) (by omega) h3 (by omega) hm1 hm2).le hstart (by simp) (fun acc => ?_)
              rw [hst ht, if_neg c40, if_neg c41]
              unfold commAfter
              rw [if_neg (by omega), if_neg (by omega)]
            | false =>
              rw [ht, if_neg (by decide)] at hstart
              refine .inr ⟨3, by decide, hstart, fun acc => ?_⟩
              rw [scanL_cons]
              unfold step
              simp only []
              rw [hf, ht, if_neg (by decide), if_neg c92, if_neg (by decide)]

theorem lexatom_l0 (s : ByteArray) (hs : s.size ≤ 1000000) : ∀ (n k i : Nat) (l : Bytes), l.length ≤ n → n + 1 ≤ k → (bs s).drop i = l → i ≤ (bs s).length → 1 ≤ i →
    ∃ j, i ≤ j ∧ j ≤ (bs s).length ∧ lex_next.l0 k s (i : Int) = some (1, str ((bs s).take j), str ((bs s).drop j), 0) ∧ ∀ acc, scanL acc (.atom ((bs s).take i)) l = scanL (acc ++ [(1, (bs s).take j)]) .out ((bs s).drop j)
  | n, k, i, [], hn, hk, hd, hi, h1 => by
    obtain ⟨k, rfl⟩ : ∃ j, k = j + 1 := ⟨k - 1, by omega⟩
    have := drop_nil hd
    have hl := bs_length s
    refine ⟨i, Nat.le_refl _, hi, ?_, fun acc => by rw [hd]; rfl⟩
    rw [lex_next.l0, if_neg (by omega), if_neg (by omega), if_pos (by omega), if_pos (by omega)]
    simp only [Int.toNat_natCast]
    rw [str_rest, show s.extract 0 i = str ((bs s).take i) by apply bs_inj; rw [bs_extract, bs_str, List.drop_zero]]
  | 0, k, i, c :: l, hn, hk, hd, hi, h1 => by simp at hn
  | n + 1, k, i, c :: l, hn, hk, hd, hi, h0 => by
    obtain ⟨k, rfl⟩ : ∃ j, k = j + 1 := ⟨k - 1, by omega⟩
    obtain ⟨h1, h2, h3, h4⟩ := drop_cons hd
    have h5 : i < s.size := by rw [bs_length] at h1; exact h1
    simp only [List.length_cons] at hn
    cases ha : atomic c with
    | true =>
      obtain ⟨j, q1, q2, q3, q4⟩ := lexatom_l0 s hs n k (i + 1) l (by omega) (by omega) h3 (by omega) (by omega)
      refine ⟨j, by omega, q2, ?_, fun acc => ?_⟩
      · rw [lex_next.l0, if_pos (by omega), if_pos (by omega), bt_drop hd, atomic_is, Option.bind_some, ha, if_pos rfl, wrap_succ i (by omega)]
        exact q3
      · rw [scanL_cons]
        unfold step
        simp only []
        rw [ha, if_pos rfl, ← h4]
        exact q4 acc
    | false =>
      refine ⟨i, Nat.le_refl _, by omega, ?_, fun acc => ?_⟩
      · rw [lex_next.l0, if_pos (by omega), if_pos (by omega), bt_drop hd, atomic_is, Option.bind_some, ha, if_neg (by decide), if_neg (by omega), if_pos (by omega)]
        simp only [Int.toNat_natCast]
        rw [str_rest, show s.extract 0 i = str ((bs s).take i) by apply bs_inj; rw [bs_extract, bs_str, List.drop_zero]]
      · rw [hd, scanL_cons, scanL_cons]
        unfold step
        simp only []
        rw [ha, if_neg (by decide)]
theorem wrap_01 : wrap64 ((0 : Int) + 1) = ((1 : Nat) : Int) := wrap_succ 0 (by decide)
theorem lexnext_is (s : ByteArray) (hs : s.size ≤ 1000000) (c : UInt8) (l : Bytes) (hb : bs s = c :: l) (k : Nat) (hk : 3 * s.size + 10 ≤ k) :
    (∃ (kd : Int) (t r : Bytes), lex_next.f k s = some (kd, str t, str r, 0) ∧ r.length ≤ l.length ∧ ∀ acc, scanL acc .out (c :: l) = scanL (if kd = 0 then acc else acc ++ [(kd, t)]) .out r) ∨
    (∃ (kd : Int) (t : Bytes) (r : ByteArray) (e : Int), e ≠ 0 ∧ lex_next.f k s = some (kd, str t, r, e) ∧ ∀ acc, scanL acc .out (c :: l) = ([], e)) := by
  have hlen := bs_length s
  rw [hb] at hlen
  simp only [List.length_cons] at hlen
  have hd : (bs s).drop 0 = c :: l := by rw [hb]; rfl
  have hd1 : (bs s).drop 1 = l := (drop_cons hd).2.2.1
  have hbt : bt s 0 = (c.toNat : Int) := bt_drop hd
  have eE : s.extract 1 s.size = str l := by rw [str_rest, hd1]
  have hsc : ∀ acc, scanL acc .out (c :: l) = (match stepOut acc c l with | .inl (a, t, r) => scanL a t r | .inr e => ([], e)) := by
    intro acc
    rw [scanL_cons]
    rfl
  have hout : ∀ (a b d e f g : Bool), foldAt (c :: l) = a → atomic c = b → signB c = f → whiteB c = g → ∀ acc, stepOut acc c l = if a = true then .inl (acc, .out, l.tail) else if b = true then .inl (acc, .atom [c], l) else if c = 34 then .inl (acc, .quot [] false, l) else if c = 40 then .inl (acc, .comm 1 false, l) else if f = true then .inl (acc ++ [(3, [c])], .out, l) else if g = true then .inl (acc, .out, l) else .inr 3 := by
    intro a b d e f g h1 h2 h3 h4 acc
    unfold stepOut
    rw [h1, h2, h3, h4]
  unfold lex_next.f
  rw [if_pos (by omega), hbt, lexwhite_is, Option.bind_some]
  cases hw : whiteB c with
  | true =>
    obtain ⟨n13, n40, n34, na, ns⟩ := white_apart c hw
    have hf := fold_not n13 l
    rw [if_pos rfl, if_pos (by omega), eE]
    refine .inl ⟨0, [], l, rfl, Nat.le_refl _, fun acc => ?_⟩
    rw [hsc, hout false false false false false true hf na ns hw, if_neg (by decide), if_neg (by decide), if_neg n34, if_neg n40, if_neg (by decide), if_pos rfl, if_pos rfl]
  | false =>
    rw [if_neg (by decide), lexfold_is s hs, Option.bind_some, hb]
    cases hf : foldAt (c :: l) with
    | true =>
      obtain ⟨t1, t2, t3⟩ := tail_drop hd hf
      rw [bs_length] at t2
      rw [if_pos rfl, if_pos (by omega), show s.extract 2 s.size = str l.tail by rw [str_rest]; congr 1]
      refine .inl ⟨0, [], l.tail, rfl, by simp, fun acc => ?_⟩
      rw [hsc, hout true _ false false _ _ hf rfl rfl rfl, if_pos rfl, if_pos rfl]
    | false =>
      rw [if_neg (c := false = true) (by decide)]
      by_cases c40 : c = 40
      · have na : atomic c = false := by rw [c40]; decide +kernel
        rw [if_pos (by rw [c40]; rfl)]
        obtain ⟨k, rfl⟩ : ∃ j, k = j + 2 := ⟨k - 2, by omega⟩
        have hcm : lex_comment.f (k + 2) s = lex_comment.l0 k s ((1 : Nat) : Int) ((1 : Nat) : Int) := by
          unfold lex_comment.f
          rw [lex_comment.l0, if_pos (by omega), if_pos (by decide), if_pos (by omega), show s.extract (0 : Int).toNat s.size = s from extract_all s, lexfold_is s hs, hb, hf, Option.bind_some, if_neg (by decide), hbt, if_neg (c := (c.toNat : Int) = 92) (by rw [c40]; decide), if_pos (by rw [c40]; rfl), show ((0 : Int) == 16) = false from rfl, lex_comment.j1, if_neg (by decide), if_pos (by rw [c40]; rfl), wrap_01]
        rw [hcm]
        have hso : ∀ acc, scanL acc .out (c :: l) = scanL acc (.comm 1 false) l := by
          intro acc
          rw [hsc, hout false false false false _ _ hf na rfl rfl, if_neg (by decide), if_neg (by decide), if_neg (by rw [c40]; decide), if_pos c40]
        rcases lexcomment_l0 s hs l.length k 1 1 l (Nat.le_refl _) (by omega) hd1 (by rw [hb]; simp) (by decide) (by decide) with ⟨r, h1, h2, h3⟩ | ⟨e, h1, h2, h3⟩
        · rw [h1]
          exact .inl ⟨0, [], r, rfl, h2, fun acc => by rw [hso, h3, if_pos rfl]⟩
        · rw [h2]
          exact .inr ⟨0, [], str [], e, h1, rfl, fun acc => by rw [hso, h3]⟩
      · rw [if_neg (c := (c.toNat : Int) = 40) (fun h => c40 ((byte_ofNat c 40 (by decide)).1 h))]
        by_cases c34 : c = 34
        · have na : atomic c = false := by rw [c34]; decide +kernel
          rw [if_pos (by rw [c34]; rfl)]
          have hso : ∀ acc, scanL acc .out (c :: l) = scanL acc (.quot [] false) l := by
            intro acc
            rw [hsc, hout false false false false _ _ hf na rfl rfl, if_neg (by decide), if_neg (by decide), if_pos c34]
          rcases lexquoted_l0 s hs l.length k 1 [] l (Nat.le_refl _) (by omega) hd1 (by rw [hb]; simp) (by simp) with ⟨w', r, h1, h2, h3⟩ | ⟨e, h1, h2, h3⟩
          · rw [show lex_quoted.f k s = lex_quoted.l0 k s (numsOf []) ((1 : Nat) : Int) from rfl, h1]
            exact .inl ⟨2, w', r, rfl, h2, fun acc => by rw [hso, h3, if_neg (by decide)]⟩
          · rw [show lex_quoted.f k s = lex_quoted.l0 k s (numsOf []) ((1 : Nat) : Int) from rfl, h2]
            exact .inr ⟨0, [], str [], e, h1, rfl, fun acc => by rw [hso, h3]⟩
        · rw [if_neg (c := (c.toNat : Int) = 34) (fun h => c34 ((byte_ofNat c 34 (by decide)).1 h)), lexsign_is, Option.bind_some]
          cases hsg : signB c with
          | true =>
            have na : atomic c = false := by
              cases ha : atomic c with
              | false => rfl
              | true => have := (atomic_apart c ha).2.2.2.2.2; rw [hsg] at this; cases this
            rw [if_pos rfl, if_pos (by decide), if_pos (by omega), eE, show s.extract 0 1 = str [c] from extract_one (i := 0) hd]
            refine .inl ⟨3, [c], l, rfl, Nat.le_refl _, fun acc => ?_⟩
            rw [hsc, hout false false false false true false hf na hsg hw, if_neg (by decide), if_neg (by decide), if_neg c34, if_neg c40, if_pos rfl, if_neg (by decide)]
          | false =>
            rw [if_neg (c := false = true) (by decide)]
            obtain ⟨k, rfl⟩ : ∃ j, k = j + 1 := ⟨k - 1, by omega⟩
            cases ha : atomic c with
            | false =>
              rw [lex_next.l0, if_pos (by omega), if_pos (by decide), hbt, atomic_is, ha, Option.bind_some, if_neg (by decide), if_pos rfl]
              refine .inr ⟨0, [], _, 3, by decide, rfl, fun acc => ?_⟩
              rw [hsc, hout false false false false false false hf ha hsg hw, if_neg (by decide), if_neg (by decide), if_neg c34, if_neg c40, if_neg (by decide), if_neg (by decide)]
            | true =>
              rw [lex_next.l0, if_pos (by omega), if_pos (by decide), hbt, atomic_is, ha, Option.bind_some, if_pos rfl, wrap_01]
              obtain ⟨j, q1, q2, q3, q4⟩ := lexatom_l0 s hs l.length k 1 l (Nat.le_refl _) (by omega) hd1 (by rw [hb]; simp) (by decide)
              rw [q3]
              refine .inl ⟨1, _, _, rfl, ?_, fun acc => ?_⟩
              · rw [hb]
                simp only [List.length_drop, List.length_cons]
                omega
              · rw [hsc, hout false true false false _ _ hf ha rfl rfl, if_neg (by decide), if_pos rfl, if_neg (by decide), ← q4 acc, hb]
                rfl
def tok142 (t : Tok) : S142 := ⟨t.1, str t.2⟩
theorem lexScan_l0 : ∀ (n k : Nat) (s : ByteArray) (acc : List Tok), s.size ≤ n → s.size ≤ 1000000 → 4 * n + 20 ≤ k → acc.length + s.size ≤ 1000000 →
    lex_Scan.l0 k s (acc.map tok142) = some ((scanL acc .out (bs s)).1.map tok142, (scanL acc .out (bs s)).2)
  | n, k, s, acc, hn, hs, hk, ha => by
    obtain ⟨k, rfl⟩ : ∃ j, k = j + 1 := ⟨k - 1, by omega⟩
    have hlen := bs_length s
    rw [lex_Scan.l0, toList_bs]
    cases hb : bs s with
    | nil => rw [if_pos rfl]; rfl
    | cons c l =>
      rw [hb] at hlen
      simp only [List.length_cons] at hlen
      obtain ⟨n, rfl⟩ : ∃ j, n = j + 1 := ⟨n - 1, by omega⟩
      rw [if_neg (by simp)]
      rcases lexnext_is s hs c l hb k (by omega) with ⟨kd, t, r, h1, h2, h3⟩ | ⟨kd, t, r, e, h0, h1, h3⟩
      · rw [h1, Option.bind_some, if_pos rfl, h3]
        by_cases hkd : kd = 0
        · rw [if_pos hkd, if_pos hkd, lexScan_l0 n k (str r) acc (by rw [str_size]; omega) (by rw [str_size]; omega) (by omega) (by rw [str_size]; omega), bs_str]
        · rw [if_neg hkd, if_neg hkd, if_pos (by rw [List.length_map]; omega), show acc.map tok142 ++ [(⟨kd, str t⟩ : S142)] = (acc ++ [(kd, t)]).map tok142 by simp [tok142],
            lexScan_l0 n k (str r) (acc ++ [(kd, t)]) (by rw [str_size]; omega) (by rw [str_size]; omega) (by omega) (by rw [str_size]; simp; omega), bs_str]
      · rw [h1, Option.bind_some, if_neg h0, h3]
        rfl
theorem lexScan_is (s : ByteArray) (hs : s.size ≤ 1000000) (k : Nat) (hk : 4 * s.size + 20 ≤ k) : lex_Scan.f k s = some ((scanL [] .out (bs s)).1.map tok142, (scanL [] .out (bs s)).2) := by
  have := lexScan_l0 s.size k s [] (Nat.le_refl _) hs hk (by simpa using hs)
  unfold lex_Scan.f
  exact this
end Go.Proofs.YtlomcmdbbnbciaaDoor.Pl
set_option linter.unusedVariables false
set_option linter.unusedSimpArgs false
namespace Go.Proofs.YtlomcmdbbnbciaaDoor.Pl
open Go.RowKit Go.Proofs.YtlomcmdbbnbciaaDoorW.PrintWords Go.Proofs.YtlomcmdbbnbciaaDoor.Fn

/-! The reference's glyph functions, as the plain ones. -/
end Go.Proofs.YtlomcmdbbnbciaaDoor.Pl
-- written by xprint.py of this session over the kit's printer; not trusted: Lean checks it
namespace Go.Proofs.YtlomcmdbbnbciaaDoor.Fn
open Go.RowKit Go.Proofs.YtlomcmdbbnbciaaDoorW.PrintWords Go.Proofs.YtlomcmdbbnbciaaDoorW.PrintLast Go.Proofs.YtlomcmdbbnbciaaDoorW.PrintMore
attribute [local go_sem] max2_int min2_int max_two min_two max_three min_three max_four min_four   -- for this text's walks alone
set_option linter.unusedVariables false
set_option linter.unusedSimpArgs false

/-! ### addr_Domain: function 27 -/
end Go.Proofs.YtlomcmdbbnbciaaDoor.Fn
set_option linter.unusedVariables false
namespace Go.Proofs.YtlomcmdbbnbciaaDoor.Pl
open Go.RowKit Go.Proofs.YtlomcmdbbnbciaaDoorW.PrintWords Go.Proofs.YtlomcmdbbnbciaaDoor.Fn

/-! The document's labels, domains, right addresses. -/
def labN (n : Int) : Prop := (97 ≤ n ∧ n ≤ 122) ∨ (65 ≤ n ∧ n ≤ 90) ∨ (48 ≤ n ∧ n ≤ 57) ∨ n = 45
instance (n : Int) : Decidable (labN n) := by unfold labN; infer_instance
end Go.Proofs.YtlomcmdbbnbciaaDoor.Pl
-- written by xprint.py of this session over the kit's printer; not trusted: Lean checks it
namespace Go.Proofs.YtlomcmdbbnbciaaDoor.Fn
open Go.RowKit Go.Proofs.YtlomcmdbbnbciaaDoorW.PrintWords Go.Proofs.YtlomcmdbbnbciaaDoorW.PrintLast Go.Proofs.YtlomcmdbbnbciaaDoorW.PrintMore
attribute [local go_sem] max2_int min2_int max_two min_two max_three min_three max_four min_four   -- for this text's walks alone
set_option linter.unusedVariables false
set_option linter.unusedSimpArgs false

/-! ### bulletinref13_Of: function 88 -/
mutual
def bulletinref13_Of.l0 : Nat → List (S148) → Int → Int → Option (ByteArray × ByteArray × Int)
 | 0, _, _, _ => none
 | k + 1, x0, x4, x5 => if x5 < (x0.length : Int) then (if 0 ≤ x5 then (if ((rd_T148 x0 x5).f0) = 3 then (if ((rd_T148 x0 x5).f1).toList = ([64] : List UInt8) then (if x4 < 0 then (bulletinref13_Of.l0 k x0 x5 (wrap64 (x5 + 1))) else (bulletinref13_Of.l0 k x0 x4 (wrap64 (x5 + 1)))) else (bulletinref13_Of.l0 k x0 x4 (wrap64 (x5 + 1)))) else (bulletinref13_Of.l0 k x0 x4 (wrap64 (x5 + 1)))) else (none)) else (if x4 < 0 then (some ((⟨#[]⟩ : ByteArray), (⟨#[]⟩ : ByteArray), 130)) else (bulletinref13_Of.l1 k x0 x4 0 (⟨#[]⟩ : ByteArray) (⟨#[]⟩ : ByteArray)))
def bulletinref13_Of.l1 : Nat → List (S148) → Int → Int → ByteArray → ByteArray → Option (ByteArray × ByteArray × Int)
 | 0, _, _, _, _, _ => none
 | k + 1, x0, x4, x7, x436000, x436001 => if x7 < (x0.length : Int) then (if 0 ≤ x7 then (if x7 > x4 then (bulletinref13_Of.j2 k x0 x4 x7 (wrap64 ((wrap64 (x7 - x4)) - 1)) x436000 x436001 ((rd_T148 x0 x7).f0) ((rd_T148 x0 x7).f1)) else (bulletinref13_Of.j2 k x0 x4 x7 x7 x436000 x436001 ((rd_T148 x0 x7).f0) ((rd_T148 x0 x7).f1))) else (none)) else (if (Int.tmod x4 2) = 0 then (bulletinref13_Of.j5 k true x436000 x436001) else (bulletinref13_Of.j5 k ((Int.tmod (wrap64 ((wrap64 ((x0.length : Int) - x4)) - 1)) 2) == 0) x436000 x436001))
def bulletinref13_Of.j2 : Nat → List (S148) → Int → Int → Int → ByteArray → ByteArray → Int → ByteArray → Option (ByteArray × ByteArray × Int)
 | 0, _, _, _, _, _, _, _, _ => none
 | k + 1, x0, x4, x7, x9, x436000, x436001, x438000, x438001 => if x7 = x4 then (bulletinref13_Of.j3 k x0 x4 x7 x9 false x436000 x436001 x438000 x438001) else (if (Int.tmod x9 2) = 1 then (if x438000 = 3 then (bulletinref13_Of.j3 k x0 x4 x7 x9 (x438001.toList != ([46] : List UInt8)) x436000 x436001 x438000 x438001) else (bulletinref13_Of.j3 k x0 x4 x7 x9 true x436000 x436001 x438000 x438001)) else (bulletinref13_Of.j3 k x0 x4 x7 x9 false x436000 x436001 x438000 x438001))
def bulletinref13_Of.j3 : Nat → List (S148) → Int → Int → Int → Bool → ByteArray → ByteArray → Int → ByteArray → Option (ByteArray × ByteArray × Int)
 | 0, _, _, _, _, _, _, _, _, _ => none
 | k + 1, x0, x4, x7, x9, x75, x436000, x436001, x438000, x438001 => if x75 = true then (some ((⟨#[]⟩ : ByteArray), (⟨#[]⟩ : ByteArray), 130)) else (if x7 = x4 then (bulletinref13_Of.j4 k x0 x4 x7 false x436000 x436001 x438000 x438001) else (if (Int.tmod x9 2) = 0 then (if x438000 = 3 then (bulletinref13_Of.j4 k x0 x4 x7 true x436000 x436001 x438000 x438001) else (if x7 > x4 then (bulletinref13_Of.j4 k x0 x4 x7 (x438000 != 1) x436000 x436001 x438000 x438001) else (bulletinref13_Of.j4 k x0 x4 x7 false x436000 x436001 x438000 x438001))) else (bulletinref13_Of.j4 k x0 x4 x7 false x436000 x436001 x438000 x438001)))
def bulletinref13_Of.j4 : Nat → List (S148) → Int → Int → Bool → ByteArray → ByteArray → Int → ByteArray → Option (ByteArray × ByteArray × Int)
 | 0, _, _, _, _, _, _, _, _ => none
 | k + 1, x0, x4, x7, x99, x436000, x436001, x438000, x438001 => if x99 = true then (some ((⟨#[]⟩ : ByteArray), (⟨#[]⟩ : ByteArray), 130)) else (if x7 < x4 then (if x436000.size + x438001.size ≤ 9223372036854775807 then (if x7 > x4 then (if x436001.size + x438001.size ≤ 9223372036854775807 then (bulletinref13_Of.l1 k x0 x4 (wrap64 (x7 + 1)) (x436000 ++ x438001) (x436001 ++ x438001)) else (none)) else (bulletinref13_Of.l1 k x0 x4 (wrap64 (x7 + 1)) (x436000 ++ x438001) x436001)) else (none)) else (if x7 > x4 then (if x436001.size + x438001.size ≤ 9223372036854775807 then (bulletinref13_Of.l1 k x0 x4 (wrap64 (x7 + 1)) x436000 (x436001 ++ x438001)) else (none)) else (bulletinref13_Of.l1 k x0 x4 (wrap64 (x7 + 1)) x436000 x436001)))
def bulletinref13_Of.j5 : Nat → Bool → ByteArray → ByteArray → Option (ByteArray × ByteArray × Int)
 | 0, _, _, _ => none
 | k + 1, x130, x436000, x436001 => if x130 = true then (some ((⟨#[]⟩ : ByteArray), (⟨#[]⟩ : ByteArray), 130)) else ((bulletinref06_Fold.f k x436001).bind fun t438 => ((bulletinref13_Why.f k x436000 t438).bind fun t439 => (if t439 = 0 then (some (x436000, t438, 0)) else (some ((⟨#[]⟩ : ByteArray), (⟨#[]⟩ : ByteArray), t439)))))
end
end Go.Proofs.YtlomcmdbbnbciaaDoor.Fn
set_option linter.unusedVariables false
namespace Go.Proofs.YtlomcmdbbnbciaaDoor.Pl
open Go.RowKit Go.Proofs.YtlomcmdbbnbciaaDoorW.PrintWords Go.Proofs.YtlomcmdbbnbciaaDoor.Fn

/-! Layer 13: the address that tokens are. -/
def isT (t : Tok) (s : Bytes) : Bool := t.1 == 3 && t.2 == s
def wordT (t : Tok) : Bool := t.1 != 3
def atomT (t : Tok) : Bool := t.1 != 3 && t.1 == 1
def altOk (p : Tok → Bool) : List Tok → Bool
  | [] => false
  | [x] => p x
  | x :: d :: r => p x && isT d [46] && altOk p r
def cat (l : List Tok) : Bytes := l.flatMap (·.2)
def atSplit : List Tok → Option (List Tok × List Tok)
  | [] => none
  | t :: r => if isT t [64] = true then some ([], r) else (atSplit r).map fun x => (t :: x.1, x.2)
abbrev Res := ByteArray × ByteArray × Int
def finish (a b : Bytes) : Res := if why (str a) (str (fold b)) = 0 then (str a, str (fold b), 0) else (str [], str [], why (str a) (str (fold b)))
def noAddr : Res := (str [], str [], 130)
def ofT (l : List Tok) : Res := match atSplit l with
  | none => noAddr
  | some (A, B) => if altOk wordT A = true ∧ altOk atomT B = true then finish (cat A) (cat B) else noAddr

theorem atSplit_some {l A B : List Tok} (h : atSplit l = some (A, B)) : ∃ t, isT t [64] = true ∧ l = A ++ t :: B ∧ ∀ x ∈ A, isT x [64] = false := by
  induction l generalizing A B with
  | nil => cases h
  | cons t r ih =>
    rw [atSplit] at h
    by_cases ht : isT t [64] = true
    · rw [if_pos ht] at h
      cases h
      exact ⟨t, ht, rfl, by simp⟩
    · rw [if_neg ht] at h
      cases hr : atSplit r with
      | none => rw [hr] at h; cases h
      | some x =>
        obtain ⟨A', B'⟩ := x
        rw [hr] at h
        simp only [Option.map_some, Option.some.injEq, Prod.mk.injEq] at h
        obtain ⟨rfl, rfl⟩ := h
        obtain ⟨u, h1, h2, h3⟩ := ih hr
        refine ⟨u, h1, by rw [h2]; rfl, ?_⟩
        intro x hx
        rcases List.mem_cons.1 hx with e | e
        · rw [e]; simpa using ht
        · exact h3 x e
theorem atSplit_of {A B : List Tok} {t : Tok} (ht : isT t [64] = true) (hA : ∀ x ∈ A, isT x [64] = false) : atSplit (A ++ t :: B) = some (A, B) := by
  induction A with
  | nil => rw [List.nil_append, atSplit, if_pos ht]
  | cons a A ih =>
    rw [List.cons_append, atSplit, if_neg (by rw [hA a (by simp)]; decide), ih (fun x hx => hA x (List.mem_cons_of_mem _ hx))]
    rfl

/-! the program's: words joined by dots, as long as they go on -/
def jn (p : Tok → Bool) : List Tok → Option (Bytes × List Tok)
  | [] => none
  | [x] => if p x = true then some (x.2, []) else none
  | x :: d :: r => if p x = true then (if isT d [46] = true then (jn p r).map fun y => (x.2 ++ d.2 ++ y.1, y.2) else some (x.2, d :: r)) else none
theorem jn_some (p : Tok → Bool) : ∀ {l : List Tok} {s : Bytes} {q : List Tok}, jn p l = some (s, q) → ∃ A, l = A ++ q ∧ altOk p A = true ∧ s = cat A
  | [], s, q, h => by cases h
  | [x], s, q, h => by
    rw [jn] at h
    by_cases hp : p x = true
    · rw [if_pos hp] at h
      simp only [Option.some.injEq, Prod.mk.injEq] at h
      obtain ⟨rfl, rfl⟩ := h
      exact ⟨[x], rfl, hp, by simp [cat]⟩
    · rw [if_neg hp] at h; cases h
  | x :: d :: r, s, q, h => by
    rw [jn] at h
    by_cases hp : p x = true
    · rw [if_pos hp] at h
      by_cases hd : isT d [46] = true
      · rw [if_pos hd] at h
        cases hr : jn p r with
        | none => rw [hr] at h; cases h
        | some y =>
          obtain ⟨s', q'⟩ := y
          rw [hr] at h
          simp only [Option.map_some, Option.some.injEq, Prod.mk.injEq] at h
          obtain ⟨rfl, rfl⟩ := h
          obtain ⟨A, h1, h2, h3⟩ := jn_some p hr
          refine ⟨x :: d :: A, by rw [h1]; rfl, ?_, ?_⟩
          · rw [altOk, hp, hd, h2]; rfl
          · rw [h3]; simp [cat]
      · rw [if_neg hd] at h
        simp only [Option.some.injEq, Prod.mk.injEq] at h
        obtain ⟨rfl, rfl⟩ := h
        exact ⟨[x], rfl, hp, by simp [cat]⟩
    · rw [if_neg hp] at h; cases h
theorem jn_of (p : Tok → Bool) : ∀ (A q : List Tok), altOk p A = true → (∀ d r, q = d :: r → isT d [46] = false) → jn p (A ++ q) = some (cat A, q)
  | [], q, h, _ => by cases h
  | [x], q, h, hq => by
    have hp : p x = true := h
    cases q with
    | nil => rw [List.append_nil, jn, if_pos hp]; simp [cat]
    | cons d r =>
      rw [show [x] ++ d :: r = x :: d :: r from rfl, jn, if_pos hp, if_neg (by rw [hq d r rfl]; decide)]
      simp [cat]
  | x :: d :: A, q, h, hq => by
    rw [altOk, Bool.and_eq_true, Bool.and_eq_true] at h
    rw [show (x :: d :: A) ++ q = x :: d :: (A ++ q) from rfl, jn, if_pos h.1.1, if_pos h.1.2, jn_of p A q h.2 hq]
    simp [cat]
def resJ (w : Bytes) : Option (Bytes × List Tok) → ByteArray × List S142 × Bool
  | none => (str [], [], false)
  | some (s, q) => (str (w ++ s), q.map tok142, true)
def pOf (b : Bool) : Tok → Bool := fun t => if b = true then atomT t else wordT t
theorem rd142_0 (x : Tok) (r : List Tok) : rd_T142 ((x :: r).map tok142) 0 = tok142 x := rfl
theorem beq_str (t : Bytes) (a : Array UInt8) : ((str t).toList == (⟨a⟩ : ByteArray).toList) = (t == a.toList) := by
  rw [toList_str, toList_bs]
  rfl
def headIs (l : List Tok) (s : Bytes) : Bool := match l with | [] => false | t :: _ => isT t s
theorem addris_is (l : List Tok) (a : Array UInt8) : addr_is.f (l.map tok142) (⟨a⟩ : ByteArray) = some (headIs l a.toList) := by
  unfold addr_is.f
  cases l with
  | nil => rw [if_neg (by simp)]; rfl
  | cons t r =>
    rw [if_pos (by simp <;> omega), if_pos (by simp <;> omega), rd142_0]
    unfold headIs isT tok142
    simp only []
    rw [beq_str]
theorem joined_is (b : Bool) : ∀ (n k : Nat) (l : List Tok) (w : Bytes), l.length ≤ n → 2 * n + 2 ≤ k → w.length + (cat l).length ≤ 1000000 →
    addr_joined.l0 k (l.map tok142) b (str w) = some (resJ w (jn (pOf b) l))
  | n, k, [], w, hn, hk, hw => by
    obtain ⟨k, rfl⟩ : ∃ j, k = j + 2 := ⟨k - 2, by omega⟩
    rw [addr_joined.l0, if_pos (by simp), addr_joined.j1, if_pos rfl]
    rfl
  | 0, k, x :: r, w, hn, hk, hw => by simp at hn
  | n + 1, k, x :: r, w, hn, hk, hw => by
    obtain ⟨k, rfl⟩ : ∃ j, k = j + 2 := ⟨k - 2, by omega⟩
    simp only [List.length_cons] at hn
    have hsel : addr_joined.l0 (k + 2) ((x :: r).map tok142) b (str w) = addr_joined.j1 (k + 1) ((x :: r).map tok142) b (str w) (!(pOf b x)) := by
      rw [addr_joined.l0, if_neg (by simp <;> omega), if_pos (by simp <;> omega), rd142_0]
      have e3 : ((tok142 x).f0 = 3) = (x.1 = 3) := rfl
      unfold pOf atomT wordT
      by_cases h3 : x.1 = 3
      · rw [if_pos (by rw [e3]; exact h3)]
        cases b <;> simp [h3]
      · rw [if_neg (by rw [e3]; exact h3)]
        have q3 : (x.1 == 3) = false := by simpa using h3
        cases b with
        | true => rw [if_pos rfl]; simp [q3, tok142, bne]
        | false => rw [if_neg (by decide)]; simp [q3, bne]
    have hc : (cat (x :: r)).length = x.2.length + (cat r).length := by simp [cat]
    rw [hsel, addr_joined.j1]
    cases hp : pOf b x with
    | false =>
      rw [show (!false) = true from rfl, if_pos rfl]
      have : jn (pOf b) (x :: r) = none := by
        cases r with
        | nil => rw [jn, if_neg (by rw [hp]; decide)]
        | cons d r => rw [jn, if_neg (by rw [hp]; decide)]
      rw [this]
      rfl
    | true =>
      rw [show (!true) = false from rfl, if_neg (by decide), if_pos (by simp <;> omega), rd142_0, show (tok142 x).f1 = str x.2 from rfl, str_app, if_pos (by rw [str_size, str_size]; omega), if_pos (by simp <;> omega), Option.bind_some,
        show ((x :: r).map tok142).drop 1 = r.map tok142 from rfl, addris_is, Option.bind_some]
      cases r with
      | nil =>
        rw [show headIs [] (#[46] : Array UInt8).toList = false from rfl, if_neg (by decide), jn, if_pos hp]
        rfl
      | cons d r =>
        simp only [List.length_cons] at hn
        have hc2 : (cat (d :: r)).length = d.2.length + (cat r).length := by simp [cat]
        rw [jn, if_pos hp]
        cases hd : isT d [46] with
        | false =>
          rw [show headIs (d :: r) (#[46] : Array UInt8).toList = isT d [46] from rfl, hd, if_neg (by decide), if_neg (by decide)]
          rfl
        | true =>
          have hd2 : d.2 = [46] := by
            unfold isT at hd
            rw [Bool.and_eq_true, beq_iff_eq, beq_iff_eq] at hd
            exact hd.2
          rw [show headIs (d :: r) (#[46] : Array UInt8).toList = isT d [46] from rfl, hd, if_pos rfl, if_pos (by rw [str_size]; rw [hd2] at hc2; simp at hc2 ⊢ <;> omega), if_pos (by simp <;> omega), if_pos rfl,
            show ((d :: r).map tok142).drop 1 = r.map tok142 from rfl, show (⟨#[46]⟩ : ByteArray) = str [46] from rfl, str_app]
          rw [joined_is b n k r (w ++ x.2 ++ [46]) (by omega) (by omega) (by rw [hd2] at hc2; simp at hc2 ⊢ <;> omega)]
          cases hj : jn (pOf b) r with
          | none => rfl
          | some y =>
            obtain ⟨s, q⟩ := y
            simp [resJ, hd2]
theorem no64 {p : Tok → Bool} (hp : ∀ t, p t = true → t.1 ≠ 3) : ∀ {A : List Tok}, altOk p A = true → ∀ x ∈ A, isT x [64] = false
  | [], h, x, hx => by cases hx
  | [y], h, x, hx => by
    have : x = y := by simpa using hx
    subst this
    have := hp x h
    unfold isT
    simp [this]
  | y :: d :: A, h, x, hx => by
    rw [altOk, Bool.and_eq_true, Bool.and_eq_true] at h
    rcases List.mem_cons.1 hx with e | e
    · rw [e]
      have := hp y h.1.1
      unfold isT
      simp [this]
    · rcases List.mem_cons.1 e with e | e
      · rw [e]
        have := h.1.2
        unfold isT at this ⊢
        rw [Bool.and_eq_true, beq_iff_eq, beq_iff_eq] at this
        rw [this.2]
        simp
      · exact no64 hp h.2 x e
theorem addrOf_is (l : List Tok) (hl : l.length ≤ 100000) (hc : (cat l).length ≤ 100000) (k : Nat) (hk : 2 * l.length + 400000 ≤ k) : addr_Of.f k (l.map tok142) = some (ofT l) := by
  obtain ⟨k, rfl⟩ : ∃ j, k = j + 2 := ⟨k - 2, by omega⟩
  have bad : ∀ (k : Nat) (x : List S142) (y : ByteArray), addr_Of.j0 (k + 1) x y true = some noAddr := by
    intro k x y
    rw [addr_Of.j0, if_pos rfl]
    rfl
  have bad1 : ∀ (k : Nat) (x y : ByteArray), addr_Of.j1 (k + 1) x y true = some noAddr := by
    intro k x y
    rw [addr_Of.j1, if_pos rfl]
    rfl
  unfold addr_Of.f addr_joined.f
  rw [show (⟨#[]⟩ : ByteArray) = str [] from rfl, joined_is false l.length (k + 2) l [] (Nat.le_refl _) (by omega) (by simp <;> omega), Option.bind_some]
  have hpf : pOf false = wordT := by funext t; rfl
  have hpt : pOf true = atomT := by funext t; rfl
  rw [hpf]
  have hword : ∀ t, wordT t = true → t.1 ≠ 3 := fun t h => by unfold wordT at h; simpa using h
  cases hj : jn wordT l with
  | none =>
    rw [show resJ [] none = (str [], [], false) from rfl, if_neg (by decide), bad]
    unfold ofT
    cases hs : atSplit l with
    | none => rfl
    | some x =>
      obtain ⟨A, B⟩ := x
      obtain ⟨t, h1, h2, h3⟩ := atSplit_some hs
      simp only []
      rw [if_neg]
      rintro ⟨g, _⟩
      have := jn_of wordT A (t :: B) g (fun d r e => by
        cases e
        unfold isT at h1 ⊢
        rw [Bool.and_eq_true, beq_iff_eq, beq_iff_eq] at h1
        rw [h1.2]
        simp)
      rw [← h2, hj] at this
      cases this
  | some y =>
    obtain ⟨s, q⟩ := y
    obtain ⟨A0, g1, g2, g3⟩ := jn_some wordT hj
    have hA0 := no64 hword g2
    rw [show resJ [] (some (s, q)) = (str s, q.map tok142, true) from rfl]
    simp only [if_true]
    rw [addris_is, Option.bind_some]
    have hother : (∀ t r, q = t :: r → isT t [64] = false) → ofT l = noAddr := by
      intro hq
      unfold ofT
      cases hs : atSplit l with
      | none => rfl
      | some x =>
        obtain ⟨A, B⟩ := x
        obtain ⟨t, h1, h2, h3⟩ := atSplit_some hs
        simp only []
        rw [if_neg]
        rintro ⟨g, _⟩
        have hh := jn_of wordT A (t :: B) g (fun d r e => by
          cases e
          unfold isT at h1 ⊢
          rw [Bool.and_eq_true, beq_iff_eq, beq_iff_eq] at h1
          rw [h1.2]
          simp)
        rw [← h2, hj] at hh
        simp only [Option.some.injEq, Prod.mk.injEq] at hh
        have := hq t B hh.2
        rw [h1] at this
        cases this
    cases q with
    | nil =>
      rw [hother (fun t r e => by cases e)]
      exact bad _ _ _
    | cons t B =>
      simp only []
      rw [show headIs (t :: B) (#[64] : Array UInt8).toList = isT t [64] from rfl]
      cases ht : isT t [64] with
      | false =>
        rw [hother (fun t' r e => by cases e; exact ht)]
        exact bad _ _ _
      | true =>
        have hsp : atSplit l = some (A0, B) := by rw [g1]; exact atSplit_of ht hA0
        have hcl : (cat l).length = (cat A0).length + (t.2.length + (cat B).length) := by rw [g1]; simp [cat]
        have hll : l.length = A0.length + (B.length + 1) := by rw [g1]; simp
        rw [show (!true) = false from rfl, addr_Of.j0, if_neg (by decide), if_pos (by simp <;> omega), show ((t :: B).map tok142).drop 1 = B.map tok142 from rfl]
        unfold addr_joined.f
        rw [show (⟨#[]⟩ : ByteArray) = str [] from rfl, joined_is true B.length (k + 1) B [] (Nat.le_refl _) (by omega) (by simp <;> omega), Option.bind_some, hpt]
        unfold ofT
        rw [hsp]
        simp only []
        cases hj2 : jn atomT B with
        | none =>
          rw [show resJ [] none = (str [], [], false) from rfl, if_neg (by decide), bad1, if_neg]
          rintro ⟨_, g⟩
          have := jn_of atomT B [] g (fun d r e => by cases e)
          rw [List.append_nil, hj2] at this
          cases this
        | some y =>
          obtain ⟨s2, q2⟩ := y
          obtain ⟨A2, f1, f2, f3⟩ := jn_some atomT hj2
          rw [show resJ [] (some (s2, q2)) = (str s2, q2.map tok142, true) from rfl]
          simp only [if_true]
          cases q2 with
          | cons d r =>
            rw [show decide (((((d :: r).map tok142).length : Nat) : Int) > 0) = true by simp <;> omega, bad1, if_neg]
            rintro ⟨_, g⟩
            have := jn_of atomT B [] g (fun d r e => by cases e)
            rw [List.append_nil, hj2] at this
            simp at this
          | nil =>
            rw [List.append_nil] at f1
            subst f1
            rw [show decide ((((([] : List Tok).map tok142).length : Nat) : Int) > 0) = false from rfl, addr_Of.j1, if_neg (by decide), if_pos ⟨g2, f2⟩, f3, g3]
            have hb : (cat B).length ≤ 100000 := by omega
            have ha : (cat A0).length ≤ 100000 := by omega
            rw [glyphFold_is _ (by rw [str_size]; omega), bs_str, Option.bind_some, addrWhy_is _ _ (by rw [str_size]; omega) (by rw [str_size, fold_length]; omega) k (by rw [str_size]; omega), Option.bind_some]
            unfold finish
            by_cases hw : why (str (cat A0)) (str (fold (cat B))) = 0
            · rw [if_pos hw, if_pos hw]
            · rw [if_neg hw, if_neg hw]
              rfl
end Go.Proofs.YtlomcmdbbnbciaaDoor.Pl
set_option linter.unusedVariables false
namespace Go.Proofs.YtlomcmdbbnbciaaDoor.Pl
open Go.RowKit Go.Proofs.YtlomcmdbbnbciaaDoorW.PrintWords Go.Proofs.YtlomcmdbbnbciaaDoor.Fn

/-! Layer 13, the document's: the address that tokens are. -/
end Go.Proofs.YtlomcmdbbnbciaaDoor.Pl
set_option linter.unusedVariables false
namespace Go.Proofs.YtlomcmdbbnbciaaDoor.Pl
open Go.RowKit Go.Proofs.YtlomcmdbbnbciaaDoorW.PrintWords Go.Proofs.YtlomcmdbbnbciaaDoor.Fn
set_option maxRecDepth 100000 in
theorem works13_at : bulletinlaw13_works.f 100 = some true := by decide +kernel
theorem works13 (k : Nat) (hk : 100 ≤ k) : bulletinlaw13_works.f k = some true := mono_up bulletinlaw13_works.mono works13_at k hk
end Go.Proofs.YtlomcmdbbnbciaaDoor.Pl
-- written by xprint.py of this session over the kit's printer; not trusted: Lean checks it
namespace Go.Proofs.YtlomcmdbbnbciaaDoor.Fn
open Go.RowKit Go.Proofs.YtlomcmdbbnbciaaDoorW.PrintWords Go.Proofs.YtlomcmdbbnbciaaDoorW.PrintLast Go.Proofs.YtlomcmdbbnbciaaDoorW.PrintMore
attribute [local go_sem] max2_int min2_int max_two min_two max_three min_three max_four min_four   -- for this text's walks alone
set_option linter.unusedVariables false
set_option linter.unusedSimpArgs false

/-! ### bulletinref13_Parse: function 37 -/
end Go.Proofs.YtlomcmdbbnbciaaDoor.Fn
-- written by xprint.py of this session over the kit's printer; not trusted: Lean checks it
namespace Go.Proofs.YtlomcmdbbnbciaaDoor.Fn
open Go.RowKit Go.Proofs.YtlomcmdbbnbciaaDoorW.PrintWords Go.Proofs.YtlomcmdbbnbciaaDoorW.PrintLast Go.Proofs.YtlomcmdbbnbciaaDoorW.PrintMore
attribute [local go_sem] max2_int min2_int max_two min_two max_three min_three max_four min_four   -- for this text's walks alone
set_option linter.unusedVariables false
set_option linter.unusedSimpArgs false

/-! ### bulletinref13_Strict: function 38 -/
end Go.Proofs.YtlomcmdbbnbciaaDoor.Fn
-- written by xprint.py of this session over the kit's printer; not trusted: Lean checks it
namespace Go.Proofs.YtlomcmdbbnbciaaDoor.Fn
open Go.RowKit Go.Proofs.YtlomcmdbbnbciaaDoorW.PrintWords Go.Proofs.YtlomcmdbbnbciaaDoorW.PrintLast Go.Proofs.YtlomcmdbbnbciaaDoorW.PrintMore
attribute [local go_sem] max2_int min2_int max_two min_two max_three min_three max_four min_four   -- for this text's walks alone
set_option linter.unusedVariables false
set_option linter.unusedSimpArgs false

theorem eqA31 (d : Nat) (w : World) (x0 y0 : ByteArray) (x1 y1 : ByteArray) :
    (Op.equalIn (d + 2) 31 (.agg #[.string x0, .string x1]) (.agg #[.string y0, .string y1])).run Tryd.prog w = .ok (x0.toList == y0.toList && (x1.toList == y1.toList)) w := by
  refine eqA_of Tryd.underlying31 (by kernel_rfl) ?_
  refine eqf_cons (by rfl) (by go_simp; rfl) (by go_simp; rfl) (by go_simp) ?_
  exact eqf_last (by rfl) (by go_simp; rfl) (by go_simp; rfl) (by go_simp)
end Go.Proofs.YtlomcmdbbnbciaaDoor.Fn
-- written by xprint.py of this session over the kit's printer; not trusted: Lean checks it
namespace Go.Proofs.YtlomcmdbbnbciaaDoor.Fn
open Go.RowKit Go.Proofs.YtlomcmdbbnbciaaDoorW.PrintWords Go.Proofs.YtlomcmdbbnbciaaDoorW.PrintLast Go.Proofs.YtlomcmdbbnbciaaDoorW.PrintMore
attribute [local go_sem] max2_int min2_int max_two min_two max_three min_three max_four min_four   -- for this text's walks alone
set_option linter.unusedVariables false
set_option linter.unusedSimpArgs false

/-! ### bulletinlaw13_Of: function 39 -/
end Go.Proofs.YtlomcmdbbnbciaaDoor.Fn
-- written by xprint.py of this session over the kit's printer; not trusted: Lean checks it
namespace Go.Proofs.YtlomcmdbbnbciaaDoor.Fn
open Go.RowKit Go.Proofs.YtlomcmdbbnbciaaDoorW.PrintWords Go.Proofs.YtlomcmdbbnbciaaDoorW.PrintLast Go.Proofs.YtlomcmdbbnbciaaDoorW.PrintMore
attribute [local go_sem] max2_int min2_int max_two min_two max_three min_three max_four min_four   -- for this text's walks alone
set_option linter.unusedVariables false
set_option linter.unusedSimpArgs false

attribute [local go_sem high] eqA31
/-! ### bulletinlaw13_AddrReads: function 6 -/
end Go.Proofs.YtlomcmdbbnbciaaDoor.Fn
set_option linter.unusedVariables false
set_option linter.unusedSimpArgs false
namespace Go.Proofs.YtlomcmdbbnbciaaDoor.Pl
open Go.RowKit Go.Proofs.YtlomcmdbbnbciaaDoorW.PrintWords Go.Proofs.YtlomcmdbbnbciaaDoor.Fn

/-! how many tokens there are, and how long they are -/
def pend : Sc → Nat
  | .atom _ => 1
  | _ => 0
theorem cat_app (a b : List Tok) : cat (a ++ b) = cat a ++ cat b := by simp [cat]
theorem tail_len {c : UInt8} {l : Bytes} (h : foldAt (c :: l) = true) : l.tail.length + 1 = l.length := by
  cases l with
  | nil => cases h
  | cons b l => simp
theorem stepOut_bound {acc : List Tok} {c : UInt8} {l : Bytes} {a : List Tok} {t : Sc} {r : Bytes} (h : stepOut acc c l = .inl (a, t, r)) :
    a.length + pend t + r.length ≤ acc.length + (l.length + 1) ∧ (cat a).length + (wOf t).length + r.length ≤ (cat acc).length + (l.length + 1) := by
  unfold stepOut at h
  by_cases c1 : foldAt (c :: l) = true
  · rw [if_pos c1] at h
    have := tail_len c1
    simp only [Sum.inl.injEq, Prod.mk.injEq] at h
    obtain ⟨rfl, rfl, rfl⟩ := h
    simp only [pend, wOf, List.length_nil]
    omega
  · rw [if_neg c1] at h
    repeat' split at h
    all_goals (first | (cases h; done) | (simp only [Sum.inl.injEq, Prod.mk.injEq] at h; obtain ⟨rfl, rfl, rfl⟩ := h; simp only [pend, wOf, cat_app, List.length_append, List.length_nil, List.length_cons]; simp [cat]; try omega))
theorem step_bound {acc : List Tok} {st : Sc} {c : UInt8} {l : Bytes} {a : List Tok} {t : Sc} {r : Bytes} (h : step acc st c l = .inl (a, t, r)) :
    a.length + pend t + r.length ≤ acc.length + pend st + (l.length + 1) ∧ (cat a).length + (wOf t).length + r.length ≤ (cat acc).length + (wOf st).length + (l.length + 1) := by
  cases st with
  | out =>
    have := stepOut_bound h
    rw [show pend .out = 0 from rfl, show wOf .out = [] from rfl, List.length_nil]
    omega
  | atom w =>
    unfold step at h
    simp only [] at h
    by_cases ha : atomic c = true
    · rw [if_pos ha] at h
      simp only [Sum.inl.injEq, Prod.mk.injEq] at h
      obtain ⟨rfl, rfl, rfl⟩ := h
      simp only [pend, wOf, List.length_append, List.length_cons, List.length_nil]
      omega
    · rw [if_neg ha] at h
      have := stepOut_bound h
      rw [cat_app] at this
      rw [show pend (.atom w) = 1 from rfl, show wOf (.atom w) = w from rfl]
      simp only [List.length_append, List.length_cons, List.length_nil] at this ⊢
      have e : (cat [((1 : Int), w)]).length = w.length := by simp [cat]
      omega
  | quot w b =>
    cases b with
    | true =>
      unfold step at h
      simp only [] at h
      repeat' split at h
      all_goals (first | (cases h; done) | (simp only [Sum.inl.injEq, Prod.mk.injEq] at h; obtain ⟨rfl, rfl, rfl⟩ := h; simp only [pend, wOf, List.length_append, List.length_cons, List.length_nil]; omega))
    | false =>
      unfold step at h
      simp only [] at h
      by_cases c1 : foldAt (c :: l) = true
      · rw [if_pos c1] at h
        have := tail_len c1
        simp only [Sum.inl.injEq, Prod.mk.injEq] at h
        obtain ⟨rfl, rfl, rfl⟩ := h
        simp only [pend, wOf]
        omega
      · rw [if_neg c1] at h
        have e : (cat [((2 : Int), w)]).length = w.length := by simp [cat]
        repeat' split at h
        all_goals (first | (cases h; done) | (simp only [Sum.inl.injEq, Prod.mk.injEq] at h; obtain ⟨rfl, rfl, rfl⟩ := h; simp only [pend, wOf, cat_app, List.length_append, List.length_cons, List.length_nil]; omega))
  | comm d b =>
    cases b with
    | true =>
      unfold step at h
      simp only [] at h
      repeat' split at h
      all_goals (first | (cases h; done) | (simp only [Sum.inl.injEq, Prod.mk.injEq] at h; obtain ⟨rfl, rfl, rfl⟩ := h; simp only [pend, wOf, List.length_append, List.length_cons, List.length_nil]; omega))
    | false =>
      unfold step commAfter at h
      simp only [] at h
      by_cases c1 : foldAt (c :: l) = true
      · rw [if_pos c1] at h
        have := tail_len c1
        simp only [Sum.inl.injEq, Prod.mk.injEq] at h
        obtain ⟨rfl, rfl, rfl⟩ := h
        simp only [pend, wOf]
        omega
      · rw [if_neg c1] at h
        generalize (if c = 40 then d + 1 else if c = 41 then d - 1 else d) = d' at h
        repeat' split at h
        all_goals (first | (cases h; done) | (simp only [Sum.inl.injEq, Prod.mk.injEq] at h; obtain ⟨rfl, rfl, rfl⟩ := h; simp only [pend, wOf, List.length_nil]; omega))
theorem scan_bound : ∀ (k : Nat) (acc : List Tok) (st : Sc) (l : Bytes), l.length ≤ k →
    (scan k acc st l).1.length ≤ acc.length + pend st + l.length ∧ (cat (scan k acc st l).1).length ≤ (cat acc).length + (wOf st).length + l.length
  | k, acc, st, [], _ => by
    have e : scan k acc st [] = endOf acc st := by cases k <;> rfl
    rw [e]
    cases st <;> simp [endOf, pend, wOf, cat]
  | 0, acc, st, c :: l, h => by simp at h
  | k + 1, acc, st, c :: l, h => by
    rw [scan]
    simp only [List.length_cons] at h
    cases hs : step acc st c l with
    | inr e => simp [cat]
    | inl x =>
      obtain ⟨a, t, r⟩ := x
      have h1 := step_bound hs
      have h2 := step_le hs
      have ih := scan_bound k a t r (by omega)
      simp only [List.length_cons]
      omega
theorem scanL_bound (l : Bytes) : (scanL [] .out l).1.length ≤ l.length ∧ (cat (scanL [] .out l).1).length ≤ l.length := by
  have := scan_bound l.length [] .out l (Nat.le_refl _)
  unfold scanL
  simp only [List.length_nil, pend, wOf, cat, List.flatMap_nil] at this ⊢
  omega
theorem finish_size (a b : Bytes) : (finish a b).1.size ≤ a.length ∧ (finish a b).2.1.size ≤ b.length := by
  unfold finish
  split
  · simp only [str_size, fold_length]; omega
  · simp only [str_size, List.length_nil]; omega
theorem ofT_size (l : List Tok) : (ofT l).1.size ≤ (cat l).length ∧ (ofT l).2.1.size ≤ (cat l).length := by
  unfold ofT
  cases hs : atSplit l with
  | none => simp [noAddr, str_size]
  | some x =>
    obtain ⟨A, B⟩ := x
    obtain ⟨t, h1, h2, h3⟩ := atSplit_some hs
    have hcl : (cat l).length = (cat A).length + (t.2.length + (cat B).length) := by rw [h2]; simp [cat]
    simp only []
    split
    · have := finish_size (cat A) (cat B)
      omega
    · simp [noAddr, str_size]
def parseL (s : ByteArray) : Res := if (scanL [] .out (bs s)).2 = 0 then ofT (scanL [] .out (bs s)).1 else noAddr
theorem parseL_size (s : ByteArray) : (parseL s).1.size ≤ s.size ∧ (parseL s).2.1.size ≤ s.size := by
  have h := scanL_bound (bs s)
  have h2 := ofT_size (scanL [] .out (bs s)).1
  rw [bs_length] at h
  unfold parseL
  split
  · omega
  · simp [noAddr, str_size]
theorem addrParse_is (s : ByteArray) (hs : s.size ≤ 50000) (k : Nat) (hk : 1000000 ≤ k) : addr_Parse.f k s = some (parseL s) := by
  have h := scanL_bound (bs s)
  rw [bs_length] at h
  unfold addr_Parse.f parseL
  rw [lexScan_is s (by omega) k (by omega), Option.bind_some]
  simp only []
  by_cases h0 : (scanL [] .out (bs s)).2 = 0
  · rw [if_pos h0, if_pos h0, addrOf_is _ (by omega) (by omega) k (by omega), Option.bind_some]
  · rw [if_neg h0, if_neg h0]
    rfl
def strictL (s : ByteArray) : Res := if (parseL s).2.2 = 0 then (if fold (bs s) = fold (textL (bs (parseL s).1) (bs (parseL s).2.1)) then parseL s else noAddr) else parseL s
theorem addrStrict_is (s : ByteArray) (hs : s.size ≤ 50000) (k : Nat) (hk : 1000000 ≤ k) : addr_Strict.f k s = some (strictL s) := by
  have h := parseL_size s
  unfold addr_Strict.f strictL
  rw [addrParse_is s hs k hk, Option.bind_some]
  by_cases h0 : (parseL s).2.2 = 0
  · rw [if_pos h0, if_pos h0, glyphFold_is s (by omega), Option.bind_some, addrKey_is _ _ (by omega) (by omega) k (by omega), Option.bind_some, toList_str, toList_str]
    split <;> rfl
  · rw [if_neg h0, if_neg h0]
end Go.Proofs.YtlomcmdbbnbciaaDoor.Pl
-- written by xprint.py of this session over the kit's printer; not trusted: Lean checks it
namespace Go.Proofs.YtlomcmdbbnbciaaDoor.Fn
open Go.RowKit Go.Proofs.YtlomcmdbbnbciaaDoorW.PrintWords Go.Proofs.YtlomcmdbbnbciaaDoorW.PrintLast Go.Proofs.YtlomcmdbbnbciaaDoorW.PrintMore
attribute [local go_sem] max2_int min2_int max_two min_two max_three min_three max_four min_four   -- for this text's walks alone
set_option linter.unusedVariables false
set_option linter.unusedSimpArgs false

/-! ### bulletinlaw13_AddrKeys: function 4 -/
mutual
def bulletinlaw13_AddrKeys.j0 : Nat → Bool → ByteArray → ByteArray → ByteArray → ByteArray → Option (Bool)
 | 0, _, _, _, _, _ => none
 | k + 1, x30, x336000, x336001, x337000, x337001 => if x30 = true then (some true) else ((bulletinlaw13_To.f x336000 x336001).bind fun bt338 => ((bulletinlaw13_To.f x337000 x337001).bind fun bt340 => ((addr_Addr_Right.f k bt338.1 bt338.2).bind fun t344 => (if t344 = true then ((addr_Addr_Right.f k bt340.1 bt340.2).bind fun t345 => (bulletinlaw13_AddrKeys.j1 k (!t345) bt338.1 bt338.2 bt340.1 bt340.2)) else (bulletinlaw13_AddrKeys.j1 k true bt338.1 bt338.2 bt340.1 bt340.2)))))
def bulletinlaw13_AddrKeys.j1 : Nat → Bool → ByteArray → ByteArray → ByteArray → ByteArray → Option (Bool)
 | 0, _, _, _, _, _ => none
 | k + 1, x42, x343000, x343001, x344000, x344001 => if x42 = true then (some true) else ((addr_Addr_Key.f k x343000 x343001).bind fun t346 => ((addr_Addr_Key.f k x344000 x344001).bind fun t347 => (if x343001.toList = x344001.toList then ((glyph_Fold.f x343000).bind fun t348 => ((glyph_Fold.f x344000).bind fun t349 => (some ((t346.toList == t347.toList) == (t348.toList == t349.toList))))) else (some ((t346.toList == t347.toList) == false)))))
end
end Go.Proofs.YtlomcmdbbnbciaaDoor.Fn
set_option linter.unusedVariables false
namespace Go.Proofs.YtlomcmdbbnbciaaDoor.Pl
open Go.RowKit Go.Proofs.YtlomcmdbbnbciaaDoorW.PrintWords Go.Proofs.YtlomcmdbbnbciaaDoor.Fn

theorem right_parts {a b : ByteArray} (h : right a b = true) : domainL (bs b) = 0 ∧ bs a ≠ [] ∧ (bs a).all plainB = true ∧ fold (bs b) = bs b ∧ a.size ≤ 64 ∧ (textL (bs a) (bs b)).length ≤ 254 := by
  unfold right at h
  rw [Bool.and_eq_true, beq_iff_eq, decide_eq_true_eq] at h
  obtain ⟨h1, h2⟩ := h
  unfold why at h1
  by_cases c1 : domain b = 130 ∨ bs a = [] ∨ plain a = false
  · rw [if_pos c1] at h1; cases h1
  · rw [if_neg c1] at h1
    by_cases c2 : domain b ≠ 0 ∨ 64 < a.size ∨ 254 < (textL (bs a) (bs b)).length
    · rw [if_pos c2] at h1; cases h1
    · have c3 : domain b = 0 := by
        by_cases h : domain b = 0
        · exact h
        · exact absurd (.inl h) c2
      have c4 : plain a = true := by
        cases hp : plain a with
        | true => rfl
        | false => exact absurd (.inr (.inr hp)) c1
      refine ⟨by rw [← domain_L]; exact c3, fun h => c1 (.inr (.inl h)), by rw [← plain_L]; exact c4, h2.symm, ?_, ?_⟩
      · rcases Nat.lt_or_ge 64 a.size with q | q
        · exact absurd (.inr (.inl q)) c2
        · exact q
      · rcases Nat.lt_or_ge 254 (textL (bs a) (bs b)).length with q | q
        · exact absurd (.inr (.inr q)) c2
        · exact q
end Go.Proofs.YtlomcmdbbnbciaaDoor.Pl
set_option linter.unusedVariables false
set_option linter.unusedSimpArgs false
namespace Go.Proofs.YtlomcmdbbnbciaaDoor.Pl
open Go.RowKit Go.Proofs.YtlomcmdbbnbciaaDoorW.PrintWords Go.Proofs.YtlomcmdbbnbciaaDoor.Fn

/-! What is written is read again. -/
def stops (l : Bytes) : Prop := ∀ c r, l = c :: r → atomic c = false
theorem scan_atomic (w : Bytes) (acc : List Tok) (l : Bytes) (hl : stops l) : ∀ v : Bytes, v.all atomic = true → scanL acc (.atom w) (v ++ l) = scanL (acc ++ [(1, w ++ v)]) .out l
  | [], _ => by
    rw [List.nil_append, List.append_nil]
    cases l with
    | nil => rfl
    | cons c r =>
      rw [scanL_cons, scanL_cons]
      unfold step
      simp only []
      rw [hl c r rfl, if_neg (by decide)]
  | c :: v, hv => by
    simp only [List.all_cons, Bool.and_eq_true] at hv
    rw [List.cons_append, scanL_cons]
    unfold step
    simp only []
    rw [hv.1, if_pos rfl]
    simp only []
    rw [scan_atomic (w ++ [c]) acc l hl v hv.2]
    simp
theorem scan_word (acc : List Tok) (w l : Bytes) (hw : atomL w = true) (hl : stops l) : scanL acc .out (w ++ l) = scanL (acc ++ [(1, w)]) .out l := by
  unfold atomL at hw
  rw [Bool.and_eq_true] at hw
  cases w with
  | nil => simp at hw
  | cons c v =>
    have hv := hw.1
    simp only [List.all_cons, Bool.and_eq_true] at hv
    rw [List.cons_append, scanL_cons]
    have hs : step acc .out c (v ++ l) = .inl (acc, .atom [c], v ++ l) := by
      unfold step stepOut
      simp only []
      rw [fold_not (atomic_apart c hv.1).1, hv.1, if_neg (by decide), if_pos rfl]
    rw [hs]
    simp only []
    rw [scan_atomic [c] acc l hl v hv.2]
    rfl
theorem scan_sign (acc : List Tok) (c : UInt8) (l : Bytes) (hc : c = 46 ∨ c = 64) : scanL acc .out (c :: l) = scanL (acc ++ [(3, [c])]) .out l := by
  have h : c ≠ 13 ∧ atomic c = false ∧ c ≠ 34 ∧ c ≠ 40 ∧ signB c = true := by rcases hc with rfl | rfl <;> decide +kernel
  rw [scanL_cons]
  have hs : step acc .out c l = .inl (acc ++ [(3, [c])], .out, l) := by
    unfold step stepOut
    simp only []
    rw [fold_not h.1, h.2.1, h.2.2.2.2, if_neg (by decide), if_neg (by decide), if_neg h.2.2.1, if_neg h.2.2.2.1, if_pos rfl]
  rw [hs]
theorem stops_sign (c : UInt8) (l : Bytes) (hc : c = 46 ∨ c = 64) : stops (c :: l) := by
  intro d r e
  obtain ⟨rfl, rfl⟩ := List.cons.inj e
  rcases hc with rfl | rfl <;> decide +kernel
theorem stops_nil : stops [] := fun c r e => by cases e
def toks : List Bytes → List Tok
  | [] => []
  | [p] => [(1, p)]
  | p :: q :: r => (1, p) :: (3, [46]) :: toks (q :: r)
def dotJoin : List Bytes → Bytes
  | [] => []
  | [p] => p
  | p :: q :: r => p ++ 46 :: dotJoin (q :: r)
theorem dotJoin_split : ∀ l : Bytes, dotJoin (splitL 46 l) = l
  | [] => rfl
  | c :: l => by
    have ih := dotJoin_split l
    have hne := splitL_ne 46 l
    rw [splitL]
    by_cases h : c = 46
    · rw [if_pos h]
      cases hs : splitL 46 l with
      | nil => exact absurd hs hne
      | cons p r => rw [hs] at ih; rw [dotJoin, ih, h]; rfl
    · rw [if_neg h]
      cases hs : splitL 46 l with
      | nil => exact absurd hs hne
      | cons p r =>
        rw [hs] at ih
        simp only []
        cases r with
        | nil => rw [dotJoin] at ih ⊢; rw [ih]
        | cons q r => rw [dotJoin] at ih ⊢; rw [← ih]; rfl
theorem scan_dots (acc : List Tok) (l : Bytes) (hl : stops l) : ∀ ps : List Bytes, ps ≠ [] → ps.all atomL = true → scanL acc .out (dotJoin ps ++ l) = scanL (acc ++ toks ps) .out l
  | [], h, _ => absurd rfl h
  | [p], _, h => by
    simp only [List.all_cons, List.all_nil, Bool.and_true] at h
    rw [dotJoin, toks, scan_word acc p l h hl]
  | p :: q :: r, _, h => by
    simp only [List.all_cons, Bool.and_eq_true] at h
    rw [dotJoin, List.append_assoc, List.cons_append, scan_word acc p _ h.1 (stops_sign 46 _ (.inl rfl)), scan_sign _ 46 _ (.inl rfl), scan_dots _ l hl (q :: r) (by simp) (by simp only [List.all_cons, Bool.and_eq_true]; exact h.2), toks]
    simp
theorem toks_alt (p : Tok → Bool) (hp : ∀ w, p (1, w) = true) : ∀ ps : List Bytes, ps ≠ [] → altOk p (toks ps) = true
  | [], h => absurd rfl h
  | [w], _ => hp w
  | w :: q :: r, _ => by
    have ih := toks_alt p hp (q :: r) (by simp)
    rw [toks, altOk, hp, ih]
    · rfl
theorem toks_cat : ∀ ps : List Bytes, cat (toks ps) = dotJoin ps
  | [] => rfl
  | [p] => by simp [toks, cat, dotJoin]
  | p :: q :: r => by
    have ih := toks_cat (q :: r)
    rw [toks, dotJoin, ← ih]
    simp [cat]
theorem scan_quoted (acc : List Tok) (l : Bytes) : ∀ (a w : Bytes), a.all plainB = true → scanL acc (.quot w false) (a.flatMap qB ++ 34 :: l) = scanL (acc ++ [(2, w ++ a)]) .out l
  | [], w, _ => by
    rw [List.flatMap_nil, List.nil_append, scanL_cons, List.append_nil]
    unfold step
    simp only []
    rw [fold_not (by decide), if_neg (by decide), if_neg (by decide), text_34, if_pos rfl, if_pos trivial]
  | c :: a, w, h => by
    simp only [List.all_cons, Bool.and_eq_true] at h
    have ht := plain_text c h.1
    have h13 : c ≠ 13 := fun e => by rw [e] at h; exact absurd h.1 (by decide)
    have ih := scan_quoted acc l a (w ++ [c]) h.2
    rw [List.flatMap_cons, List.append_assoc]
    by_cases hc : c = 34 ∨ c = 92
    · rw [show qB c = [92, c] by unfold qB; rw [if_pos hc], List.cons_append, scanL_cons]
      have hs : step acc (.quot w false) 92 ([c] ++ (a.flatMap qB ++ 34 :: l)) = .inl (acc, .quot w true, [c] ++ (a.flatMap qB ++ 34 :: l)) := by
        unfold step
        simp only []
        rw [fold_not (by decide), if_neg (by decide), if_pos trivial]
      rw [hs]
      simp only []
      rw [List.cons_append, List.nil_append, scanL_cons]
      have hs2 : step acc (.quot w true) c (a.flatMap qB ++ 34 :: l) = .inl (acc, .quot (w ++ [c]) false, a.flatMap qB ++ 34 :: l) := by
        unfold step
        simp only []
        rw [ht, if_pos rfl]
      rw [hs2]
      simp only []
      rw [ih]
      simp
    · have h34 : c ≠ 34 := fun e => hc (.inl e)
      have h92 : c ≠ 92 := fun e => hc (.inr e)
      rw [show qB c = [c] by unfold qB; rw [if_neg hc, if_pos ht], List.cons_append, List.nil_append, scanL_cons]
      have hs : step acc (.quot w false) c (a.flatMap qB ++ 34 :: l) = .inl (acc, .quot (w ++ [c]) false, a.flatMap qB ++ 34 :: l) := by
        unfold step
        simp only []
        rw [fold_not h13, if_neg (by decide), if_neg h92, ht, if_pos rfl, if_neg h34]
      rw [hs]
      simp only []
      rw [ih]
      simp
def localToks (a : Bytes) : List Tok := if dottedL a = true then toks (splitL 46 a) else [(2, a)]
theorem scan_local (a l : Bytes) (ha : a.all plainB = true) (hl : stops l) : scanL [] .out (localL a ++ l) = scanL (localToks a) .out l := by
  unfold localL localToks
  by_cases hd : dottedL a = true
  · rw [if_pos hd, if_pos hd]
    have := scan_dots [] l hl (splitL 46 a) (splitL_ne _ _) hd
    rw [dotJoin_split] at this
    simpa using this
  · rw [if_neg hd, if_neg hd]
    unfold quote
    rw [List.cons_append, List.append_assoc, scanL_cons]
    have hs : step [] .out 34 (a.flatMap qB ++ ([34] ++ l)) = .inl ([], .quot [] false, a.flatMap qB ++ ([34] ++ l)) := by
      unfold step stepOut
      simp only []
      rw [fold_not (by decide), show atomic 34 = false by decide +kernel, if_neg (by decide), if_neg (by decide), if_pos trivial]
    rw [hs]
    simp only []
    exact scan_quoted [] l a [] ha
theorem localToks_alt (a : Bytes) : altOk wordT (localToks a) = true := by
  unfold localToks
  split
  · exact toks_alt wordT (fun _ => rfl) _ (splitL_ne _ _)
  · rfl
theorem localToks_cat (a : Bytes) : cat (localToks a) = a := by
  unfold localToks
  split
  · rw [toks_cat, dotJoin_split]
  · simp [cat]
set_option maxRecDepth 100000 in
theorem labelled_atomic (c : UInt8) : labelled c = true → atomic c = true := forall_byte (p := fun c => labelled c = true → atomic c = true) (by decide +kernel) c
theorem label_atom {w : Bytes} (h : labelL w = true) : atomL w = true := by
  unfold atomL
  have hall : w.all atomic = true := by
    rw [List.all_eq_true]
    intro c hc
    exact labelled_atomic c (labelL_bytes h hc)
  rw [hall]
  cases w with
  | nil => simp [labelL] at h
  | cons c r => rfl
theorem domain_dotted {b : Bytes} (h : domainL b = 0) : (splitL 46 b).all atomL = true := by
  unfold domainL at h
  by_cases ha : (splitL 46 b).all labelL = true
  · rw [List.all_eq_true] at ha ⊢
    exact fun w hw => label_atom (ha w hw)
  · rw [if_neg ha] at h; cases h
theorem parse_text {a b : ByteArray} (h : right a b = true) : parseL (str (textL (bs a) (bs b))) = (a, b, 0) := by
  obtain ⟨d1, n1, p1, f1, s1, s2⟩ := right_parts h
  have hw : why a b = 0 := by
    unfold right at h
    rw [Bool.and_eq_true, decide_eq_true_eq] at h
    exact h.1
  have hdom := scan_dots (localToks (bs a) ++ [(3, [64])]) [] stops_nil (splitL 46 (bs b)) (splitL_ne _ _) (domain_dotted d1)
  rw [dotJoin_split, List.append_nil] at hdom
  have hscan : scanL [] .out (textL (bs a) (bs b)) = (localToks (bs a) ++ (3, [64]) :: toks (splitL 46 (bs b)), 0) := by
    unfold textL
    rw [scan_local (bs a) _ p1 (stops_sign 64 _ (.inr rfl)), scan_sign _ 64 _ (.inr rfl), hdom]
    simp [scanL_nil, endOf]
  unfold parseL
  rw [bs_str, hscan, if_pos rfl]
  simp only []
  unfold ofT
  rw [atSplit_of (t := (3, [64])) rfl (no64 (fun t ht => by unfold wordT at ht; simpa using ht) (localToks_alt (bs a)))]
  simp only []
  rw [if_pos ⟨localToks_alt _, toks_alt atomT (fun _ => rfl) _ (splitL_ne _ _)⟩, localToks_cat, toks_cat, dotJoin_split]
  unfold finish
  rw [f1, str_bs, str_bs, if_pos hw]
theorem finish_right {x y : Bytes} (h : (finish x y).2.2 = 0) : right (finish x y).1 (finish x y).2.1 = true := by
  unfold finish at h ⊢
  by_cases hw : why (str x) (str (fold y)) = 0
  · rw [if_pos hw]
    unfold right
    simp only []
    rw [hw, bs_str, fold_idem]
    simp
  · rw [if_neg hw] at h
    exact absurd h hw
theorem parse_right {s : ByteArray} (h : (parseL s).2.2 = 0) : right (parseL s).1 (parseL s).2.1 = true := by
  unfold parseL at h ⊢
  by_cases h0 : (scanL [] .out (bs s)).2 = 0
  · rw [if_pos h0] at h ⊢
    unfold ofT at h ⊢
    cases hs : atSplit (scanL [] .out (bs s)).1 with
    | none => rw [hs] at h; simp [noAddr] at h
    | some x =>
      obtain ⟨A, B⟩ := x
      rw [hs] at h
      simp only [] at h ⊢
      by_cases ho : altOk wordT A = true ∧ altOk atomT B = true
      · rw [if_pos ho] at h ⊢
        exact finish_right h
      · rw [if_neg ho] at h
        simp [noAddr] at h
  · rw [if_neg h0] at h
    simp [noAddr] at h
end Go.Proofs.YtlomcmdbbnbciaaDoor.Pl
set_option linter.unusedVariables false
namespace Go.Proofs.YtlomcmdbbnbciaaDoor.Pl
open Go.RowKit Go.Proofs.YtlomcmdbbnbciaaDoorW.PrintWords Go.Proofs.YtlomcmdbbnbciaaDoor.Fn

theorem right_fold {a b : ByteArray} (h : right a b = true) : right (str (fold (bs a))) b = true := by
  obtain ⟨d1, n1, p1, f1, s1, s2⟩ := right_parts h
  have hp : (fold (bs a)).all plainB = true := by
    rw [List.all_eq_true] at p1 ⊢
    intro c hc
    unfold fold at hc
    obtain ⟨d, hd, rfl⟩ := List.mem_map.1 hc
    have : ∀ d : UInt8, plainB d = true → plainB (foldB d) = true := fun d => forall_byte (p := fun d => plainB d = true → plainB (foldB d) = true) (by decide +kernel) d
    exact this d (p1 d hd)
  have hl : (textL (fold (bs a)) (bs b)).length = (textL (bs a) (bs b)).length := by
    unfold textL
    rw [← localL_fold]
    simp [fold_length]
  unfold right why
  rw [plain_L, bs_str, hp, str_size, fold_length, bs_length, hl, domain_L, d1, f1]
  have e1 : ¬ ((0 : Int) = 130 ∨ fold (bs a) = [] ∨ true = false) := by
    rintro (e | e | e)
    · cases e
    · have := congrArg List.length e
      rw [fold_length, List.length_nil] at this
      exact n1 (List.eq_nil_of_length_eq_zero this)
    · cases e
  have e2 : ¬ ((0 : Int) ≠ 0 ∨ 64 < a.size ∨ 254 < (textL (bs a) (bs b)).length) := by
    rintro (e | e | e)
    · exact e rfl
    · omega
    · omega
  rw [if_neg e1, if_neg e2]
  simp
theorem AddrBack (a b : ByteArray) : ∃ k, bulletinlaw13_AddrBack.f k a b = some true := by
  refine ⟨1000000 + 1 + 1, ?_⟩
  generalize hk : (1000000 : Nat) = k
  have hw := works13 (k + 1 + 1) (by omega)
  unfold bulletinlaw13_AddrBack.f
  rw [hw, Option.bind_some, if_pos rfl]
  have yes : bulletinlaw13_AddrBack.j0 (k + 1 + 1) true a b = some true := by rw [bulletinlaw13_AddrBack.j0, if_pos rfl]
  by_cases h1 : (a.size : Int) > 500
  · rw [if_pos h1, yes]
  rw [if_neg h1]
  by_cases h2 : (b.size : Int) > 500
  · rw [show decide ((b.size : Int) > 500) = true by simpa using h2, yes]
  have hlen := textL_length (bs a) (bs b)
  rw [bs_length, bs_length] at hlen
  rw [show decide ((b.size : Int) > 500) = false by simpa using h2, bulletinlaw13_AddrBack.j0, if_neg (by decide)]
  simp only [bulletinlaw13_To.f, Option.bind_some]
  rw [addrText_is a b (by omega) (by omega) (k + 1) (by omega), Option.bind_some, addrParse_is _ (by rw [str_size]; omega) (k + 1) (by omega), Option.bind_some, addrRight_is a b (by omega) (by omega) (k + 1) (by omega), Option.bind_some]
  have hkey : (parseL (str (textL (bs a) (bs b)))).2.2 = 0 → ((parseL (str (textL (bs a) (bs b)))).1.toList == a.toList && ((parseL (str (textL (bs a) (bs b)))).2.1.toList == b.toList)) = right a b := by
    intro h0
    cases hr : right a b with
    | true => rw [parse_text hr]; simp
    | false =>
      rw [Bool.eq_false_iff]
      intro hq
      rw [Bool.and_eq_true, beq_iff_eq, beq_iff_eq, toList_bs, toList_bs, toList_bs, toList_bs] at hq
      have := parse_right h0
      rw [bs_inj hq.1, bs_inj hq.2, hr] at this
      cases this
  have hgo : bulletinlaw13_AddrBack.j1 (k + 1) false a b = some true := by
    rw [bulletinlaw13_AddrBack.j1, if_neg (by decide), addrRight_is a b (by omega) (by omega) k (by omega), Option.bind_some]
    cases hr : right a b with
    | false => rw [if_neg (by decide)]
    | true =>
      have hp := parse_text hr
      have hst : strictL (str (textL (bs a) (bs b))) = (a, b, 0) := by
        unfold strictL
        rw [hp, if_pos rfl, bs_str, if_pos rfl]
      have hrf := right_fold hr
      obtain ⟨d1, n1, p1, f1, s1, s2⟩ := right_parts hr
      have hkt : fold (textL (bs a) (bs b)) = textL (bs (str (fold (bs a)))) (bs b) := by
        unfold textL
        rw [fold_app, localL_fold, fold_cons, bs_str, f1]
        rfl
      have hp2 : parseL (str (fold (textL (bs a) (bs b)))) = (str (fold (bs a)), b, 0) := by
        rw [hkt]
        exact parse_text hrf
      rw [if_pos rfl, addrText_is a b (by omega) (by omega) k (by omega), Option.bind_some, addrStrict_is _ (by rw [str_size]; omega) k (by omega), Option.bind_some, addrKey_is a b (by omega) (by omega) k (by omega), Option.bind_some, addrParse_is _ (by rw [str_size, fold_length]; omega) k (by omega), Option.bind_some, hst, hp2, if_pos rfl, if_pos (by simp), if_pos rfl,
        addrKey_is _ b (by rw [str_size, fold_length, bs_length]; omega) (by omega) k (by rw [str_size, fold_length, bs_length]; omega), Option.bind_some, Option.bind_some, toList_str, toList_str, if_pos (by rw [← hkt, fold_idem]), glyphFold_is a (by omega), Option.bind_some]
      simp
  by_cases h0 : (parseL (str (textL (bs a) (bs b)))).2.2 = 0
  · rw [if_pos h0, hkey h0, show (right a b != right a b) = false by simp]
    exact hgo
  · rw [if_neg h0]
    have hr : right a b = false := by
      cases hr : right a b with
      | false => rfl
      | true =>
        rw [parse_text hr] at h0
        exact absurd rfl h0
    rw [hr]
    exact hgo
end Go.Proofs.YtlomcmdbbnbciaaDoor.Pl
set_option linter.unusedVariables false
namespace Go.Proofs.YtlomcmdbbnbciaaDoor
open Go.ChangeShapes Go.WideShapes Go.ChangeAt Go.RowKit

/-! What all rows of this seat share: a world that meets the condition; the premises as the walks want them. -/
theorem own : ownKnob Tryd.prog.godebug = none := by kernel_rfl
theorem laidOut : laidOutB Tryd.prog = true := by kernel_rfl
def listed : List (String × DataW Unit) := [("unicode/utf8.acceptRanges", Rows.laid_unicode_utf8_acceptRanges), ("unicode/utf8.first", Rows.laid_unicode_utf8_first)]
noncomputable def laidWorld (os : Os) : World :=
  let w0 := World.holding Tryd.prog os ⟨#[], #[], []⟩
  let put (h : Array Obj) (g : Nat) (cs : Array Value) : Array Obj := h.modify g fun
    | .cells _ t frozen => .cells cs t frozen
    | o => o
  let h1 := put w0.heap 0 (Lib.firstTab.map fun z => Value.int .u8 z).toArray
  let h2 := put h1 1 ((List.range 16).flatMap fun i => [Value.int .u8 (Lib.accLo i), Value.int .u8 (Lib.accHi i)]).toArray
  { w0 with heap := h2 }
set_option maxRecDepth 100000 in
theorem laid_met (os : Os) (args : Array Value) : laidMetH Tryd.prog listed ((laidWorld os).forCall (fun _ _ => 0) ⟨#[], args, []⟩).memory :=
  laidMetH_of_parts (laidMet_of_run' 8 (by kernel_rfl) (by kernel_rfl)) (by kernel_rfl)

theorem lift_both {H : Type} {enc : TypeId × Value → H} {a : Assume} {C : Checked} {os : Os} {f : FuncId} {fn : Func} {s : ChangeSpec} {conds : List PathCond} {apart fresh handsOn again : Bool} {X : World → Array Value → Prop}
    (hX : ∀ (w w' : World) (args : Array Value), w.heap = w'.heap → X w args → X w' args)
    (own : ownKnob C.prog.godebug = none) (started : os.Started) (noInit : C.prog.inits.idxOf? f = none) (hfn : C.prog.funcs[f]? = some fn)
    (witness : ∃ (w : World) (tape : Tape) (i : Input), w.os = os ∧ (w.forCall tape i).Shaped C.prog ∧ i.vars = [] ∧ Input.okWide C.prog (w.forCall tape i) .any w.heap.size f i ∧
      ((s.pre enc C.prog fn conds apart (w.forCall tape i).memory i.args ∧ X (w.forCall tape i).memory i.args) ∧ sizedMet enc C.prog fn (OpenSpec.ofChange s) apart (w.forCall tape i).memory i.args) ∧ a.holds C.prog (lone (Frame.enter C.prog f i.args .normal) [] (w.forCall tape i)))
    (contract : ∀ (W : World) (base : Nat) (args : Array Value) (ds gs : List (DataW H)) (before : List MemPlace),
      (∀ (j : Nat) t v, fn.params[j]? = some t → args[j]? = some v → Value.okWide C.prog W .any base t v) →
      DataW.Whole enc C.prog fn.params.toList s.vars apart W args.toList ds gs before →
      (DataW.weightsEach C.prog (fn.params.toList ++ s.plain.varTypes C.prog) (ds ++ gs)).all (· ≤ reachBytes) = true → X W args → W.ShapedOpen C.prog →
      Calls C.prog f args W fun e W' => ∃ v, e = .returned v ∧ s.post enc C.prog fn apart fresh handsOn again W args v W') :
    ReturnsInHanded a C os f .any (fun w args => (s.pre enc C.prog fn conds apart w args ∧ X w args) ∧ sizedMet enc C.prog fn (OpenSpec.ofChange s) apart w args) (s.post enc C.prog fn apart fresh handsOn again) := by
  refine returnsInHanded_of_calls own started noInit witness ?_
  intro w tape i _ hsh _ hok hpre _
  obtain ⟨_, _, _, fn', hfn', _, _, _, _, hval⟩ := hok
  have e : fn' = fn := Option.some.inj (hfn'.symm.trans hfn)
  subst e
  obtain ⟨⟨⟨ds, gs, before, hw, _⟩, hx⟩, hz⟩ := hpre
  have hw' := DataW.Whole.of_heap (w' := w.forCall tape i) (by rfl) hw
  refine (contract (w.forCall tape i) w.heap.size i.args ds gs before hval hw' (hz.weights hw) (hX _ _ _ (by rfl) hx) hsh).mono fun e W' ⟨v, he, hp⟩ => ?_
  subst he
  exact ChangeSpec.post_blind hp
end Go.Proofs.YtlomcmdbbnbciaaDoor
-- the row of the law AddrBack, out of its pure statement and its walk
namespace Go.Proofs.YtlomcmdbbnbciaaDoor.addrBack
open Go.ChangeShapes Go.WideShapes Go.ChangeAt Go.RowKit Go.Joins
open Go.ChangeMaps (open_string shut_string)
set_option maxRecDepth 100000 in
theorem lifted (os : Os) (started : os.Started) (H : Type) (enc : TypeId × Value → H) :
    ReturnsInHanded {} Tryd.checked os 7 .any (fun w args => (Rows.addrBackSpec.pre enc Tryd.prog Tryd.f7 [] false w args ∧ laidMetH Tryd.prog listed w) ∧ sizedMet enc Tryd.prog Tryd.f7 (OpenSpec.ofChange Rows.addrBackSpec) false w args) (Rows.addrBackSpec.post enc Tryd.prog Tryd.f7 false true false false) := by
  refine lift_both (C := Tryd.checked) (X := fun w _ => laidMetH Tryd.prog listed w) (fun _ _ _ hh h => h.of_heap hh) own started (by kernel_rfl) Tryd.func7
    (ChangeSpec.witness_at (enc := enc) (C := Tryd.checked) (os := os) (X := fun w _ => laidMetH Tryd.prog listed w) false (laidWorld os) #[.agg #[.string ByteArray.empty, .string ByteArray.empty]] 8 rfl (by kernel_rfl) (by kernel_rfl) (by kernel_rfl) (by kernel_rfl) (by kernel_rfl) (laid_met os _)) ?_
  intro W base args ds gs before hval0 hW _ hL hSh
  have hval : ∀ (j : Nat) t v, Tryd.f7.params[j]? = some t → args[j]? = some v → Value.okWide Tryd.prog W .any base t v := hval0
  have hW' := hW
  obtain ⟨p, q, hA0, hV, rfl, _, _⟩ := hW
  have hA : DataW.TrodAll enc Tryd.prog W 0 (fun _ => true) true Tryd.f7.params.toList args.toList ds p := hA0
  rw [Tryd.params7] at hA hval
  obtain ⟨v0, vs0, d0, ds0, p0, q0, hargs, rfl, rfl, h0, r0⟩ := trodAll_cons hA
  obtain ⟨rfl, rfl, rfl⟩ := trodAll_nil r0
  obtain rfl : args = #[v0] := by cases args; simp_all
  obtain ⟨rfl, rfl⟩ := trodVars_none hV
  have k0 := h0
  have lt0 : ∀ x ∈ p0, x.block < W.heap.size := by obtain ⟨m, hm⟩ := k0; exact DataW.trod_lt m _ _ _ hm
  obtain ⟨c0_0, c0_1, y0_0, y0_1, m0, rfl, _, _, g0_0, g0_1⟩ := open_agg2 Tryd.underlying31 (by kernel_rfl) (by kernel_rfl) (hval 0 31 v0 rfl rfl) h0
  obtain ⟨a0_0, e0_0, _, _⟩ := DataW.trod_string Tryd.underlying9 g0_0
  simp only [List.cons.injEq, and_true] at e0_0
  subst e0_0
  obtain ⟨a0_1, e0_1, _, _⟩ := DataW.trod_string Tryd.underlying9 g0_1
  simp only [List.cons.injEq, and_true] at e0_1
  subst e0_1
  obtain ⟨k, hk⟩ := Pl.AddrBack a0_0 a0_1
  refine (Fn.bulletinlaw13_AddrBack.calls k a0_0 a0_1 true W hk).mono ?_
  rintro e W' ⟨rfl, bel⟩
  exact ⟨_, rfl, _, _, _, [], _, [], hW', trodAll_mk1 (shut_bool Tryd.underlying4 _), (trodAll_cons_mk (Below.trod laidOut (by kernel_rfl) (of_decide_eq_true (by kernel_rfl)) k0 bel lt0) trodAll_mk0), rfl, bel.frame _, fun h => by cases h⟩
theorem over : Rows.addrBackRow.holds Tryd.pinned (OpenSpec.ofChange Rows.addrBackSpec) :=
  OpenClaim.holds_of_wide 7 Tryd.f7 rfl rfl rfl rfl rfl rfl rfl ⟨rfl, rfl, rfl, rfl, rfl⟩ rfl rfl rfl rfl rfl (by kernel_rfl) Tryd.func7 (by kernel_rfl)
    (of_decide_eq_true (by kernel_rfl)) (by unfold Func.isWrapper; first | (rw [if_pos (by decide +kernel)]; kernel_rfl) | (rw [if_neg (by decide +kernel)]; exact ⟨rfl, rfl⟩))
    (fun os started H enc _ => lifted os started H enc)
theorem proved : Rows.AddrBackSaid := over
#print axioms proved
theorem card : Rows.AddrBackCardSaid :=
  Claim7.holds_tied_plain_at .later [] [.data, .pinned] true (true, "a3f6bcdc9cb347ffdc7221f102fbc562a39496553b45ea8bedd4c5b8b6bf59b8") false
    proved (fun _ h => by cases h) (by kernel_rfl) (fun _ h => by cases h) addrBack_row_tie rfl ⟨rfl, rfl⟩ (by kernel_rfl) rfl
    (fun f fn hf hfn => by
      obtain rfl : f = 7 := Option.some.inj ((show Tryd.prog.funcNamed "bulletin/bulletinlaw13.AddrBack" = some 7 by kernel_rfl).symm.trans hf) |>.symm
      obtain rfl : fn = Tryd.f7 := (Option.some.inj (Tryd.func7.symm.trans hfn)).symm
      exact ⟨by kernel_rfl, fun j t ht => by
        rw [Tryd.params7] at ht
        have hall : ([31] : List TypeId).all (fun t => !(Tryd.prog.wantsStandIn t)) = true := by kernel_rfl
        have hm : t ∈ ([31] : List TypeId) := by simpa using Array.mem_of_getElem? ht
        have h2 : Tryd.prog.wantsStandIn t = false := by simpa using List.all_eq_true.1 hall t hm
        exact h2⟩)
    (by kernel_rfl)
#print axioms card
end Go.Proofs.YtlomcmdbbnbciaaDoor.addrBack
namespace Go.Proofs.YtlomcmdbbnbciaaDoor
theorem addrBack_holds : Rows.AddrBackCardSaid := addrBack.card
end Go.Proofs.YtlomcmdbbnbciaaDoor
