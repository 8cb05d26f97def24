/- The law bulletinlaw13.AddrWrites returns true for every input: how addresses are written, their keys, whether they are right, and domains, are as the document has them; the tables of unicode/utf8 are as the program's text lays them. -/
import Derived.Test.YtlomcmdbbnbciaaDoorCAddrWrites4
import Derived.Test.YtlomcmdbbnbciaaDoorRows
import Derived.HandedShaped
import Derived.LaidLaws
import Derived.LaidHandle
import Derived.Deep.DeepLaidRun
import Derived.Stop.Joined
import Derived.PinnedBridge
import Derived.Lib.LaidU8
import Derived.ProofKit
import Derived.Test.YtlomcmdbbnbciaaDoorTie
import Derived.Test.YtlomcmdbbnbciaaDoorCards
import Derived.WalkKit
import Derived.OpenShut
import Derived.ShutString
import Derived.ChangeOld
import Derived.Below
import Derived.SizedLaws
import Derived.Lib.SmallJoins
import Derived.SevenTiedAt
set_option linter.unusedVariables false
namespace Go.Proofs.YtlomcmdbbnbciaaDoor.Pl
open Go.RowKit Go.Proofs.YtlomcmdbbnbciaaDoorW.PrintWords Go.Proofs.YtlomcmdbbnbciaaDoor.Fn

/-! Layer 13, the document's, over lists of bytes: it answers as the program does. -/
theorem rdS_drop {l : List Bytes} {i : Nat} {x : Bytes} {r : List Bytes} (h : l.drop i = x :: r) : rdOf ByteArray.empty (l.map str) (i : Int) = str x := by
  have h1 : l[i]? = some x := by
    have := congrArg List.head? h
    rw [List.head?_drop] at this
    exact this
  unfold rdOf
  rw [List.getD_eq_getElem?_getD, List.getElem?_map]
  simp [h1]
theorem dropS_lt {α : Type} {l : List α} {i : Nat} {x : α} {r : List α} (h : l.drop i = x :: r) : i < l.length ∧ l.drop (i + 1) = r := by
  have h1 : i < l.length := by
    rcases Nat.lt_or_ge i l.length with h' | h'
    · exact h'
    · rw [List.drop_of_length_le h'] at h; cases h
  refine ⟨h1, ?_⟩
  rw [← List.drop_drop, h]
  rfl
def headJoin (w : Bytes) : List Bytes → List Bytes
  | [] => [w]
  | p :: ps => (w ++ p) :: ps
theorem headJoin_nil (l : List Bytes) (h : l ≠ []) : headJoin [] l = l := by
  cases l with
  | nil => exact absurd rfl h
  | cons p ps => rfl
theorem headJoin_step (c x : UInt8) (w rest : Bytes) (hx : ¬ x = c) : headJoin w (splitL c (x :: rest)) = headJoin (w ++ [x]) (splitL c rest) := by
  have h := splitL_ne c rest
  rw [splitL, if_neg hx]
  cases hs : splitL c rest with
  | nil => exact absurd hs h
  | cons p ps => simp [headJoin]
theorem refSplit_l0 (s : ByteArray) (hs : s.size ≤ 1000000000) (c : UInt8) : ∀ (rest : Bytes) (i k : Nat) (acc : List Bytes) (w : Bytes), (bs s).drop i = rest → i ≤ (bs s).length → rest.length + 1 ≤ k → acc.length ≤ i → w.length ≤ i →
    bulletinref13_Split.l0 k s (c.toNat : Int) (acc.map str) (str w) (i : Int) = some ((acc ++ headJoin w (splitL c rest)).map str)
  | [], i, k, acc, w, hd, hi, hk, ha, hw => by
    obtain ⟨k, rfl⟩ : ∃ j, k = j + 1 := ⟨k - 1, by omega⟩
    have := drop_nil hd
    rw [bs_length] at this hi
    rw [bulletinref13_Split.l0, if_neg (by omega), if_pos (by rw [List.length_map]; omega)]
    simp [splitL, headJoin]
  | x :: rest, i, k, acc, w, hd, hi, hk, ha, hw => by
    obtain ⟨k, rfl⟩ : ∃ j, k = j + 1 := ⟨k - 1, by omega⟩
    obtain ⟨h1, h2, h3, h4⟩ := drop_cons hd
    have h5 : i < s.size := by rw [bs_length] at h1; exact h1
    simp only [List.length_cons] at hk
    have e : ((x.toNat : Int) = (c.toNat : Int)) = (x = c) := propext ⟨fun q => UInt8.toNat_inj.1 (by omega), fun q => by rw [q]⟩
    rw [bulletinref13_Split.l0, if_pos (by omega), if_pos (by omega), bt_drop hd]
    by_cases hx : x = c
    · rw [if_pos (by rw [e]; exact hx), if_pos (by rw [List.length_map]; omega), wrap_succ i (by omega)]
      rw [show acc.map str ++ [str w] = (acc ++ [w]).map str by simp, show (⟨#[]⟩ : ByteArray) = str [] from rfl]
      rw [refSplit_l0 s hs c rest (i + 1) k (acc ++ [w]) [] h3 (by omega) (by omega) (by simp; omega) (by simp)]
      rw [headJoin_nil _ (splitL_ne c rest), splitL, if_pos hx]
      simp [headJoin]
    · rw [if_neg (by rw [e]; exact hx), wrap_succ i (by omega), if_pos (by omega), if_pos (by omega)]
      simp only [Int.toNat_natCast]
      rw [extract_one hd, str_app, if_pos (by rw [str_size, str_size]; simp; omega)]
      rw [refSplit_l0 s hs c rest (i + 1) k acc (w ++ [x]) h3 (by omega) (by omega) (by omega) (by simp; omega)]
      rw [headJoin_step c x w rest hx]
theorem refSplit_is (s : ByteArray) (hs : s.size ≤ 1000000000) (k : Nat) (hk : s.size + 1 ≤ k) : bulletinref13_Split.f k s 46 = some ((splitL 46 (bs s)).map str) := by
  have := refSplit_l0 s hs 46 (bs s) 0 k [] [] (by simp) (by omega) (by rw [bs_length]; omega) (by simp) (by simp)
  rw [headJoin_nil _ (splitL_ne _ _)] at this
  unfold bulletinref13_Split.f
  exact this
theorem splitL_length (c : UInt8) : ∀ l : Bytes, (splitL c l).length ≤ l.length + 1
  | [] => by simp [splitL]
  | x :: l => by
    have ih := splitL_length c l
    have hne := splitL_ne c l
    rw [splitL]
    split
    · simp; omega
    · cases h : splitL c l with
      | nil => exact absurd h hne
      | cons w r => rw [h] at ih; simp at ih ⊢; omega
theorem splitL_mem_length (c : UInt8) : ∀ (l w : Bytes), w ∈ splitL c l → w.length ≤ l.length
  | [], w, h => by simp [splitL] at h; simp [h]
  | x :: l, w, h => by
    have hne := splitL_ne c l
    rw [splitL] at h
    split at h
    · rcases List.mem_cons.1 h with q | q
      · rw [q]; simp
      · have := splitL_mem_length c l w q; simp; omega
    · cases hs : splitL c l with
      | nil => exact absurd hs hne
      | cons p r =>
        rw [hs] at h
        rcases List.mem_cons.1 h with q | q
        · have := splitL_mem_length c l p (by rw [hs]; simp); rw [q]; simp; omega
        · have := splitL_mem_length c l w (by rw [hs]; simp [q]); simp; omega

/-! IsAtom -/
set_option maxRecDepth 100000 in
theorem refatomic_at (c : UInt8) : bulletinref12_atomic.f 20 (c.toNat : Int) = some (atomic c) := forall_byte (p := fun c => bulletinref12_atomic.f 20 (c.toNat : Int) = some (atomic c)) (by decide +kernel) c
theorem refatomic_is (c : UInt8) (k : Nat) (hk : 20 ≤ k) : bulletinref12_atomic.f k (c.toNat : Int) = some (atomic c) := mono_up (fun k => bulletinref12_atomic.mono _ k) (refatomic_at c) k hk
theorem refIsAtom_l0 (s : ByteArray) (hs : s.size ≤ 1000000000) : ∀ (rest : Bytes) (i k : Nat), (bs s).drop i = rest → i ≤ (bs s).length → rest.length + 1 + 20 ≤ k →
    bulletinref12_IsAtom.l0 k s (i : Int) = some (rest.all atomic)
  | [], i, k, hd, hi, hk => by
    obtain ⟨k, rfl⟩ : ∃ j, k = j + 1 := ⟨k - 1, by omega⟩
    have := drop_nil hd
    rw [bs_length] at this hi
    rw [bulletinref12_IsAtom.l0, if_neg (by omega)]
    rfl
  | c :: rest, i, k, hd, hi, hk => by
    obtain ⟨k, rfl⟩ : ∃ j, k = j + 1 := ⟨k - 1, by omega⟩
    obtain ⟨h1, h2, h3, h4⟩ := drop_cons hd
    have h5 : i < s.size := by rw [bs_length] at h1; exact h1
    simp only [List.length_cons] at hk
    rw [bulletinref12_IsAtom.l0, if_pos (by omega), if_pos (by omega), bt_drop hd, refatomic_is c k (by omega), Option.bind_some]
    cases ha : atomic c with
    | true => rw [if_pos rfl, wrap_succ i (by omega), refIsAtom_l0 s hs rest (i + 1) k h3 (by omega) (by omega)]; simp [ha]
    | false => rw [if_neg (by simp)]; simp [ha]
theorem refIsAtom_is (s : ByteArray) (hs : s.size ≤ 1000000000) (k : Nat) (hk : s.size + 1 + 20 ≤ k) : bulletinref12_IsAtom.f k s = some (atomL (bs s)) := by
  unfold bulletinref12_IsAtom.f atomL
  rw [toList_bs]
  cases h : bs s with
  | nil => rw [if_pos rfl]; rfl
  | cons c r =>
    rw [if_neg (by simp)]
    have := refIsAtom_l0 s hs (bs s) 0 k (by simp) (by omega) (by rw [bs_length]; omega)
    rw [h] at this
    rw [show (0 : Int) = ((0 : Nat) : Int) from rfl, this]
    simp
theorem refDotted_l0 (l : List Bytes) (hl : l.length ≤ 1000000000) (m : Nat) (hm : m ≤ 1000000000) (hw : ∀ w ∈ l, w.length ≤ m) : ∀ (rest : List Bytes) (i k : Nat), l.drop i = rest → i ≤ l.length → rest.length + m + 30 ≤ k →
    bulletinref13_Dotted.l0 k (l.map str) (i : Int) = some (rest.all atomL)
  | [], i, k, hd, hi, hk => by
    obtain ⟨k, rfl⟩ : ∃ j, k = j + 1 := ⟨k - 1, by omega⟩
    have : l.length ≤ i := by have := congrArg List.length hd; simp at this; omega
    rw [bulletinref13_Dotted.l0, if_neg (by rw [List.length_map]; omega)]
    rfl
  | x :: rest, i, k, hd, hi, hk => by
    obtain ⟨k, rfl⟩ : ∃ j, k = j + 1 := ⟨k - 1, by omega⟩
    obtain ⟨h1, h2⟩ := dropS_lt hd
    have hx := hw x (List.mem_of_mem_drop (i := i) (by rw [hd]; simp))
    simp only [List.length_cons] at hk
    rw [bulletinref13_Dotted.l0, if_pos (by rw [List.length_map]; omega), if_pos (by omega), rdS_drop hd, refIsAtom_is (str x) (by rw [str_size]; omega) k (by rw [str_size]; omega), bs_str, Option.bind_some]
    cases ha : atomL x with
    | true => rw [if_pos rfl, wrap_succ i (by omega), refDotted_l0 l hl m hm hw rest (i + 1) k h2 (by omega) (by omega)]; simp [ha]
    | false => rw [if_neg (by simp)]; simp [ha]
theorem refDotted_is (s : ByteArray) (hs : s.size ≤ 1000000) (k : Nat) (hk : 2 * s.size + 40 ≤ k) : bulletinref13_Dotted.f k s = some (dottedL (bs s)) := by
  unfold bulletinref13_Dotted.f dottedL
  have hl := splitL_length 46 (bs s)
  rw [bs_length] at hl
  rw [refSplit_is s (by omega) k (by omega), Option.bind_some]
  exact refDotted_l0 _ (by omega) s.size (by omega) (fun w hw => by have := splitL_mem_length 46 _ _ hw; rw [bs_length] at this; exact this) _ 0 k (by simp) (by omega) (by omega)

/-! Quote -/
set_option maxRecDepth 100000 in
theorem reftext_is (c : UInt8) : bulletinref12_Text.f (c.toNat : Int) = some (text c) := forall_byte (p := fun c => bulletinref12_Text.f (c.toNat : Int) = some (text c)) (by decide +kernel) c
theorem text_34 : text 34 = true := by decide +kernel
theorem text_92 : text 92 = true := by decide +kernel
theorem refQuote_l0 (s : ByteArray) (hs : s.size ≤ 1000000000) : ∀ (rest : Bytes) (i k : Nat) (acc : Bytes), (bs s).drop i = rest → i ≤ (bs s).length → 2 * rest.length + 1 ≤ k → acc.length ≤ 2 * i →
    bulletinref12_Quote.l0 k s (str acc) (i : Int) = some (str (34 :: (acc ++ rest.flatMap qB ++ [34])))
  | [], i, k, acc, hd, hi, hk, ha => by
    obtain ⟨k, rfl⟩ : ∃ j, k = j + 1 := ⟨k - 1, by omega⟩
    have := drop_nil hd
    rw [bs_length] at this hi
    rw [bulletinref12_Quote.l0, if_neg (by omega), if_pos (by rw [str_size]; omega), show (⟨#[34]⟩ : ByteArray) = str [34] from rfl, str_app, if_pos (by rw [str_size]; simp; omega), str_app]
    simp
  | c :: rest, i, k, acc, hd, hi, hk, ha => by
    obtain ⟨k, rfl⟩ : ∃ j, k = j + 1 + 1 := ⟨k - 2, by simp at hk; omega⟩
    obtain ⟨h1, h2, h3, h4⟩ := drop_cons hd
    have h5 : i < s.size := by rw [bs_length] at h1; exact h1
    simp only [List.length_cons] at hk
    have e34 : ((c.toNat : Int) = 34) = (c = 34) := byte_eq c 34 (by decide)
    have e92 : ((c.toNat : Int) = 92) = (c = 92) := byte_eq c 92 (by decide)
    have goon : ∀ acc' : Bytes, acc'.length ≤ acc.length + 2 → bulletinref12_Quote.l0 k s (str acc') (wrap64 ((i : Int) + 1)) = some (str (34 :: (acc' ++ rest.flatMap qB ++ [34]))) := by
      intro acc' hl
      rw [wrap_succ i (by omega)]
      exact refQuote_l0 s hs rest (i + 1) k acc' h3 (by omega) (by omega) (by omega)
    have esc : c = 34 ∨ c = 92 → bulletinref12_Quote.j1 (k + 1) s (str acc) (i : Int) (str [c]) true = some (str (34 :: (acc ++ (c :: rest).flatMap qB ++ [34]))) := by
      intro hc
      have ht : text c = true := by rcases hc with h | h <;> rw [h]; exact text_34; exact text_92
      rw [bulletinref12_Quote.j1, if_pos rfl, if_pos (by rw [str_size]; simp), if_pos (by omega), if_pos (by omega), bt_drop hd, reftext_is, Option.bind_some, ht, if_pos rfl, show (⟨#[92]⟩ : ByteArray) = str [92] from rfl, str_app, str_app, if_pos (by rw [str_size, str_size]; simp; omega), goon _ (by simp)]
      simp [qB, hc]
    rw [bulletinref12_Quote.l0, if_pos (by omega), if_pos (by omega), wrap_succ i (by omega), if_pos (by omega), if_pos (by omega), bt_drop hd]
    simp only [Int.toNat_natCast]
    rw [extract_one hd]
    by_cases c34 : c = 34
    · rw [if_pos (by rw [e34]; exact c34), esc (.inl c34)]
    · rw [if_neg (by rw [e34]; exact c34)]
      by_cases c92 : c = 92
      · rw [show ((c.toNat : Int) == 92) = true by rw [beq_iff_eq, e92]; exact c92, esc (.inr c92)]
      · rw [show ((c.toNat : Int) == 92) = false by rw [beq_eq_false_iff_ne, ne_eq, e92]; exact c92, bulletinref12_Quote.j1, if_neg (by decide), if_pos (by omega), if_pos (by omega), bt_drop hd, reftext_is, Option.bind_some]
        have hn : ¬ (c = 34 ∨ c = 92) := fun h => h.elim c34 c92
        cases ht : text c with
        | true =>
          rw [if_pos rfl, str_app, if_pos (by rw [str_size, str_size]; simp; omega), goon _ (by simp)]
          simp [qB, hn, ht]
        | false =>
          rw [if_neg (by decide), show (⟨#[32]⟩ : ByteArray) = str [32] from rfl, str_app, if_pos (by rw [str_size]; omega), goon _ (by simp)]
          simp [qB, hn, ht]
theorem refQuote_is (s : ByteArray) (hs : s.size ≤ 1000000000) (k : Nat) (hk : 2 * s.size + 1 ≤ k) : bulletinref12_Quote.f k s = some (str (quote (bs s))) := by
  have := refQuote_l0 s hs (bs s) 0 k [] (by simp) (by omega) (by rw [bs_length]; omega) (by simp)
  unfold bulletinref12_Quote.f quote
  exact this
theorem refText_is (a b : ByteArray) (ha : a.size ≤ 1000000) (hb : b.size ≤ 1000000) (k : Nat) (hk : 2 * a.size + 40 ≤ k) : bulletinref13_Text.f k a b = some (str (textL (bs a) (bs b))) := by
  unfold bulletinref13_Text.f textL localL
  rw [refDotted_is a ha k hk, Option.bind_some]
  cases hd : dottedL (bs a) with
  | true =>
    rw [if_pos rfl, if_pos (by omega), if_pos (by simp only [ByteArray.size_append]; have : (⟨#[64]⟩ : ByteArray).size = 1 := rfl; omega), if_pos rfl]
    congr 1
    apply bs_inj
    rw [bs_app, bs_app, bs_str]
    simp [bs]
  | false =>
    have hq := quote_length (bs a)
    rw [bs_length] at hq
    rw [if_neg (by decide), refQuote_is a (by omega) k (by omega), Option.bind_some]
    rw [if_pos (by rw [str_size]; omega), if_pos (by simp only [ByteArray.size_append, str_size]; have : (⟨#[64]⟩ : ByteArray).size = 1 := rfl; omega), if_neg (by decide)]
    congr 1
    apply bs_inj
    rw [bs_app, bs_app, bs_str, bs_str]
    simp [bs]
end Go.Proofs.YtlomcmdbbnbciaaDoor.Pl
set_option linter.unusedVariables false
set_option linter.unusedSimpArgs false
namespace Go.Proofs.YtlomcmdbbnbciaaDoor.Pl
open Go.RowKit Go.Proofs.YtlomcmdbbnbciaaDoorW.PrintWords Go.Proofs.YtlomcmdbbnbciaaDoor.Fn

/-! The reference's glyph functions, as the plain ones. -/
theorem fold_rounds (s : ByteArray) (hs : s.size ≤ 1000000000) : ∀ (l : Bytes) (k i : Nat) (acc : Bytes), (bs s).drop i = l → l.length < k → acc.length ≤ i →
    bulletinref06_Fold.l0 k s (str acc) (i : Int) = some (str (acc ++ fold l)) := by
  intro l
  induction l with
  | nil =>
    intro k i acc h hk ha
    obtain ⟨k, rfl⟩ : ∃ m, k = m + 1 := ⟨k - 1, by omega⟩
    have := drop_nil h
    rw [bs_length] at this
    simp only [bulletinref06_Fold.l0]
    rw [if_neg (by omega)]
    simp [fold]
  | cons c r ih =>
    intro k i acc h hk ha
    obtain ⟨k, rfl⟩ : ∃ m, k = m + 1 := ⟨k - 1, by omega⟩
    obtain ⟨h1, h2, h3, h4⟩ := drop_cons h
    rw [bs_length] at h1
    have hc := byte_lt c
    have hx := extract_one h
    have hw := wrap_succ i (by omega)
    simp only [bulletinref06_Fold.l0]
    rw [if_pos (by omega), if_pos (by omega), bt_drop h, hw]
    have hn := ih k (i + 1) (acc ++ [foldB c]) h3 (by simpa using hk) (by simp; omega)
    have hz : (str acc).size = acc.length := str_size acc
    have hfin : some (str (acc ++ [foldB c] ++ fold r)) = some (str (acc ++ fold (c :: r))) := by simp [fold]
    by_cases a : (c.toNat : Int) ≥ 65
    · rw [if_pos a]
      by_cases b : (c.toNat : Int) ≤ 90
      · rw [if_pos b]
        have e : strOfNums [((c.toNat : Int) + 32) % 256] = str [foldB c] := by
          rw [nums_one]
          congr 1
          have hf := foldB_up c ⟨by omega, b⟩
          have : (((c.toNat : Int) + 32) % 256).toNat = (foldB c).toNat := by omega
          rw [this, ofNat_toNat]
        simp only [Option.bind_some]
        rw [e, str_app, if_pos (by rw [hz, str_size]; simp; omega), hn, hfin]
      · rw [if_neg b]
        have hf : foldB c = c := by unfold foldB; rw [if_neg (by omega)]
        rw [if_pos (by omega), if_pos (by omega), Int.toNat_natCast, Int.toNat_natCast, hx, str_app, if_pos (by rw [hz, str_size]; simp; omega)]
        rw [hf] at hn hfin
        rw [hn, hfin]
    · rw [if_neg a]
      have hf : foldB c = c := by unfold foldB; rw [if_neg (by omega)]
      rw [if_pos (by omega), if_pos (by omega), Int.toNat_natCast, Int.toNat_natCast, hx, str_app, if_pos (by rw [hz, str_size]; simp; omega)]
      rw [hf] at hn hfin
      rw [hn, hfin]
theorem ref_fold (s : ByteArray) (hs : s.size ≤ 1000000000) (k : Nat) (hk : s.size < k) : bulletinref06_Fold.f k s = some (str (fold (bs s))) := by
  unfold bulletinref06_Fold.f
  have := fold_rounds s hs (bs s) k 0 [] (by simp) (by rw [bs_length]; exact hk) (by simp)
  simpa [str] using this

end Go.Proofs.YtlomcmdbbnbciaaDoor.Pl
set_option linter.unusedVariables false
namespace Go.Proofs.YtlomcmdbbnbciaaDoor.Pl
open Go.RowKit Go.Proofs.YtlomcmdbbnbciaaDoorW.PrintWords Go.Proofs.YtlomcmdbbnbciaaDoor.Fn

/-! The document's labels, domains, right addresses. -/
def labN (n : Int) : Prop := (97 ≤ n ∧ n ≤ 122) ∨ (65 ≤ n ∧ n ≤ 90) ∨ (48 ≤ n ∧ n ≤ 57) ∨ n = 45
instance (n : Int) : Decidable (labN n) := by unfold labN; infer_instance
set_option maxRecDepth 100000 in
theorem labelled_N (c : UInt8) : labelled c = decide (labN (c.toNat : Int)) := forall_byte (p := fun c => labelled c = decide (labN (c.toNat : Int))) (by decide +kernel) c
theorem reflabel_step (k : Nat) (s : ByteArray) (i n : Int) (h0 : 0 ≤ n) (h1 : n < 256) :
    (if n ≥ 65 then bulletinref13_label.j1 (k + 1) s i n (decide (n ≤ 90)) else bulletinref13_label.j1 (k + 1) s i n false) =
      if labN n ∧ ¬ (n = 45 ∧ (i = 0 ∨ i = wrap64 ((s.size : Int) - 1))) then bulletinref13_label.l0 k s (wrap64 (i + 1)) else some false := by
  generalize hG : bulletinref13_label.l0 k s (wrap64 (i + 1)) = G
  by_cases hup : 65 ≤ n ∧ n ≤ 90
  · have e : (n + 32) % 256 = n + 32 := by omega
    rw [if_pos hup.1, show decide (n ≤ 90) = true by simpa using hup.2, if_pos ⟨.inr (.inl hup), by omega⟩, bulletinref13_label.j1, if_pos rfl, hG, e]
    by_cases hi : i = 0
    · rw [if_pos hi, if_pos (by omega), if_pos (by omega)]
    · rw [if_neg hi, if_pos (by omega), if_pos (by omega)]
  · have hj : (if n ≥ 65 then bulletinref13_label.j1 (k + 1) s i n (decide (n ≤ 90)) else bulletinref13_label.j1 (k + 1) s i n false) = bulletinref13_label.j1 (k + 1) s i n false := by
      by_cases h : n ≥ 65
      · rw [if_pos h, show decide (n ≤ 90) = false by simp; omega]
      · rw [if_neg h]
    rw [hj, bulletinref13_label.j1, if_neg (by decide), hG]
    by_cases hi : i = 0
    · rw [if_pos hi]
      by_cases a : 97 ≤ n ∧ n ≤ 122
      · rw [if_pos a.1, if_pos a.2, if_pos ⟨.inl a, by omega⟩]
      · by_cases b : 48 ≤ n ∧ n ≤ 57
        · rw [if_neg (by omega), if_pos b.1, if_pos b.2, if_pos ⟨.inr (.inr (.inl b)), by omega⟩]
        · rw [if_neg (c := labN n ∧ _) (by unfold labN; rintro ⟨h | h | h | h, g⟩ <;> first | omega | exact g ⟨h, .inl hi⟩)]
          repeat' split
          all_goals first | rfl | omega
    · rw [if_neg hi]
      by_cases a : 97 ≤ n ∧ n ≤ 122
      · rw [if_pos a.1, if_pos a.2, if_pos ⟨.inl a, by omega⟩]
      · by_cases b : 48 ≤ n ∧ n ≤ 57
        · rw [if_neg (by omega), if_pos b.1, if_pos b.2, if_pos ⟨.inr (.inr (.inl b)), by omega⟩]
        · by_cases c : n = 45
          · by_cases d : i = wrap64 ((s.size : Int) - 1)
            · rw [if_neg (c := labN n ∧ _) (by rintro ⟨_, g⟩; exact g ⟨c, .inr d⟩)]
              repeat' split
              all_goals first | rfl | omega
            · rw [if_pos (c := labN n ∧ _) ⟨.inr (.inr (.inr c)), by rintro ⟨_, g | g⟩; exact hi g; exact d g⟩]
              repeat' split
              all_goals first | rfl | omega
          · rw [if_neg (c := labN n ∧ _) (by unfold labN; rintro ⟨h | h | h | h, g⟩ <;> omega)]
            repeat' split
            all_goals first | rfl | omega
def labFrom (m : Nat) : Nat → Bytes → Bool
  | _, [] => true
  | i, c :: l => labelled c && !(c == 45 && (i == 0 || i + 1 == m)) && labFrom m (i + 1) l
theorem reflabel_l0 (s : ByteArray) (hs : s.size ≤ 1000000000) : ∀ (rest : Bytes) (i k : Nat), (bs s).drop i = rest → i ≤ (bs s).length → 2 * rest.length + 1 ≤ k →
    bulletinref13_label.l0 k s (i : Int) = some (labFrom s.size i rest && !(bs s).isEmpty)
  | [], i, k, hd, hi, hk => by
    obtain ⟨k, rfl⟩ : ∃ j, k = j + 1 := ⟨k - 1, by omega⟩
    have := drop_nil hd
    rw [bs_length] at this hi
    rw [bulletinref13_label.l0, if_neg (by omega), toList_bs]
    cases bs s <;> simp [labFrom]
  | c :: rest, i, k, hd, hi, hk => by
    obtain ⟨k, rfl⟩ : ∃ j, k = j + 1 + 1 := ⟨k - 2, by simp at hk; omega⟩
    obtain ⟨h1, h2, h3, h4⟩ := drop_cons hd
    have h5 : i < s.size := by rw [bs_length] at h1; exact h1
    have hc := c.toNat_lt
    simp only [List.length_cons] at hk
    rw [bulletinref13_label.l0, if_pos (by omega), if_pos (by omega), bt_drop hd, reflabel_step k s i (c.toNat : Int) (by omega) (by omega), wrap_id (x := (s.size : Int) - 1) (by omega) (by omega), wrap_succ i (by omega)]
    rw [reflabel_l0 s hs rest (i + 1) k h3 (by omega) (by omega), labFrom, labelled_N]
    have hne : (bs s).isEmpty = false := by
      cases hb : bs s with
      | nil => rw [hb] at h1; simp at h1
      | cons _ _ => rfl
    have e45 : (c = 45) ↔ ((c.toNat : Int) = 45) := by rw [byte_45]
    rw [hne]
    by_cases hl : labN (c.toNat : Int)
    · by_cases hq : (c.toNat : Int) = 45 ∧ ((i : Int) = 0 ∨ (i : Int) = (s.size : Int) - 1)
      · rw [if_neg (fun h => h.2 hq)]
        have q1 : (c == 45) = true := by rw [beq_iff_eq, e45]; exact hq.1
        have q2 : (i == 0 || i + 1 == s.size) = true := by
          rcases hq.2 with h | h
          · simp; left; omega
          · simp; right; omega
        rw [q1, q2]
        simp
      · rw [if_pos ⟨hl, hq⟩]
        have q : (c == 45 && (i == 0 || i + 1 == s.size)) = false := by
          rw [Bool.eq_false_iff]
          intro h
          simp at h
          exact hq ⟨e45.1 h.1, h.2.imp (fun h => by omega) (fun h => by omega)⟩
        rw [q, decide_eq_true hl]
        simp
    · rw [if_neg (fun h => hl h.1), decide_eq_false hl]
      simp
theorem labFrom_all (m : Nat) : ∀ (l : Bytes) (i : Nat), 0 < i → i + l.length = m → labFrom m i l = (l.all labelled && (match l.getLast? with | some b => b != 45 | none => true))
  | [], i, _, _ => rfl
  | [c], i, h0, h => by
    simp only [labFrom, List.length_cons, List.length_nil] at h ⊢
    have : (i == 0) = false := by simp; omega
    have h2 : (i + 1 == m) = true := by simp; omega
    show (labelled c && !(c == 45 && (i == 0 || i + 1 == m)) && true) = ((labelled c && true) && (c != 45))
    rw [this, h2]
    cases labelled c <;> cases hx : (c == 45) <;> simp [bne, hx]
  | c :: d :: l, i, h0, h => by
    rw [labFrom, labFrom_all m (d :: l) (i + 1) (by omega) (by simp at h ⊢; omega)]
    have : (i == 0) = false := by simp; omega
    have h2 : (i + 1 == m) = false := by simp at h ⊢; omega
    rw [this, h2]
    have e : (c :: d :: l).getLast? = (d :: l).getLast? := by simp [List.getLast?_cons_cons]
    rw [e, List.all_cons (a := c)]
    cases labelled c <;> simp
theorem labFrom_label (w : Bytes) : (labFrom w.length 0 w && !w.isEmpty) = labelL w := by
  unfold labelL
  cases w with
  | nil => rfl
  | cons c l =>
    rw [labFrom]
    cases l with
    | nil =>
      show ((labelled c && !(c == 45 && ((0 : Nat) == 0 || 0 + 1 == 1)) && true) && true) = ((labelled c && true) && (c != 45 && c != 45))
      cases labelled c <;> cases hx : (c == 45) <;> simp [bne, hx]
    | cons d l =>
      rw [labFrom_all _ (d :: l) 1 (by omega) (by simp; omega)]
      have e : (c :: d :: l).getLast? = (d :: l).getLast? := by simp [List.getLast?_cons_cons]
      rw [e, List.all_cons (a := c)]
      have hx : ∃ b, (d :: l).getLast? = some b := ⟨(d :: l).getLast (by simp), List.getLast?_eq_some_getLast (by simp)⟩
      obtain ⟨b, hb⟩ := hx
      rw [hb]
      simp only [List.head?_cons, List.isEmpty_cons, Bool.not_false, Bool.and_true, beq_self_eq_true, Bool.true_or]
      have hc : (!(c == 45)) = (c != 45) := rfl
      rw [hc]
      cases labelled c <;> cases (c != 45) <;> cases ((d :: l).all labelled) <;> cases (b != 45) <;> rfl
theorem reflabel_is (s : ByteArray) (hs : s.size ≤ 1000000000) (k : Nat) (hk : 2 * s.size + 1 ≤ k) : bulletinref13_label.f k s = some (labelL (bs s)) := by
  have := reflabel_l0 s hs (bs s) 0 k (by simp) (by omega) (by rw [bs_length]; omega)
  rw [← bs_length s, labFrom_label] at this
  unfold bulletinref13_label.f
  exact this
theorem reffold_is (s : ByteArray) (hs : s.size ≤ 1000000000) (k : Nat) (hk : s.size < k) : bulletinref06_Fold.f k s = some (str (fold (bs s))) := ref_fold s hs k hk
theorem refDomain_l0 (s : ByteArray) (hs : s.size ≤ 1000000) (l : List Bytes) (hl : l.length ≤ 1000000000) (hw : ∀ w ∈ l, w.length ≤ s.size) : ∀ (rest : List Bytes) (i k : Nat) (b : Bool), l.drop i = rest → i ≤ l.length → rest.length + 2 * s.size + 30 ≤ k →
    bulletinref13_Domain.l0 k s (l.map str) b (i : Int) = some (if rest.all labelL = true then (if (b || rest.any (fun w => decide (63 < w.length))) = true then (str [], 2) else (str (fold (bs s)), 0)) else (str [], 130))
  | [], i, k, b, hd, hi, hk => by
    obtain ⟨k, rfl⟩ : ∃ j, k = j + 1 := ⟨k - 1, by omega⟩
    have : l.length ≤ i := by have := congrArg List.length hd; simp at this; omega
    rw [bulletinref13_Domain.l0, if_neg (by rw [List.length_map]; omega)]
    cases b with
    | true => simp; rfl
    | false =>
      rw [if_neg (by decide), reffold_is s (by omega) k (by omega)]
      simp
  | x :: rest, i, k, b, hd, hi, hk => by
    obtain ⟨k, rfl⟩ : ∃ j, k = j + 1 := ⟨k - 1, by omega⟩
    obtain ⟨h1, h2⟩ := dropS_lt hd
    have hx := hw x (List.mem_of_mem_drop (i := i) (by rw [hd]; simp))
    simp only [List.length_cons] at hk
    rw [bulletinref13_Domain.l0, if_pos (by rw [List.length_map]; omega), if_pos (by omega), rdS_drop hd, reflabel_is (str x) (by rw [str_size]; omega) k (by rw [str_size]; omega), bs_str, Option.bind_some, str_size, wrap_succ i (by omega)]
    cases ha : labelL x with
    | false => rw [if_neg (by decide)]; simp [ha]; rfl
    | true =>
      rw [if_pos rfl]
      by_cases hlen : (x.length : Int) > 63
      · rw [if_pos hlen, refDomain_l0 s hs l hl hw rest (i + 1) k true h2 (by omega) (by omega)]
        have : decide (63 < x.length) = true := by simp; omega
        simp [ha, this]
      · rw [if_neg hlen, refDomain_l0 s hs l hl hw rest (i + 1) k b h2 (by omega) (by omega)]
        have : decide (63 < x.length) = false := by simp; omega
        simp [ha, this]
def domTextL (l : Bytes) : ByteArray := if domainL l = 0 then str (fold l) else str []
theorem refDomain_is (s : ByteArray) (hs : s.size ≤ 1000000) (k : Nat) (hk : 3 * s.size + 40 ≤ k) : bulletinref13_Domain.f k s = some (domTextL (bs s), domainL (bs s)) := by
  unfold bulletinref13_Domain.f
  have hl := splitL_length 46 (bs s)
  rw [bs_length] at hl
  rw [refSplit_is s (by omega) k (by omega), Option.bind_some]
  rw [show (0 : Int) = ((0 : Nat) : Int) from rfl, refDomain_l0 s hs (splitL 46 (bs s)) (by omega) (fun w hw => by have := splitL_mem_length 46 _ _ hw; rw [bs_length] at this; exact this) (splitL 46 (bs s)) 0 k _ (by simp) (by omega) (by omega)]
  have e : decide ((s.size : Int) > 253) = decide (253 < (bs s).length) := by
    rw [bs_length]
    congr 1
    exact propext ⟨fun h => by omega, fun h => by omega⟩
  rw [e]
  unfold domTextL domainL domLongL
  by_cases h1 : (splitL 46 (bs s)).all labelL = true
  · rw [if_pos h1, if_pos h1]
    by_cases h2 : (decide (253 < (bs s).length) || (splitL 46 (bs s)).any fun w => decide (63 < w.length)) = true
    · rw [if_pos h2, if_pos h2]; simp
    · rw [if_neg h2, if_neg h2]; simp
  · rw [if_neg h1, if_neg h1]
    simp
theorem addrDomain_is (s : ByteArray) (hs : s.size ≤ 1000000) : addr_Domain.f s = some (domTextL (bs s), domainL (bs s)) := by
  unfold addr_Domain.f addr_domain.f domTextL
  rw [if_pos (by omega), domain_L]
  simp only [Option.bind_some]
  by_cases h : domainL (bs s) = 0
  · rw [if_pos h, glyphFold_is s (by omega), if_pos h, h]; rfl
  · rw [if_neg h, if_neg h]; rfl
theorem refWhy_l0 (a b : ByteArray) (ha : a.size ≤ 1000000) (hb : b.size ≤ 1000000) (e : Int) : ∀ (rest : Bytes) (i k : Nat), (bs a).drop i = rest → i ≤ (bs a).length → rest.length + 2 * a.size + 50 ≤ k →
    bulletinref13_Why.l0 k e (i : Int) a b = some (if rest.all plainB = true then (if e ≠ 0 ∨ 64 < a.size ∨ 254 < (textL (bs a) (bs b)).length then 2 else 0) else 130)
  | [], i, k, hd, hi, hk => by
    obtain ⟨k, rfl⟩ : ∃ j, k = j + 1 := ⟨k - 1, by omega⟩
    have := drop_nil hd
    rw [bs_length] at this hi
    rw [bulletinref13_Why.l0, if_neg (by omega), if_pos (c := ([] : Bytes).all plainB = true) rfl]
    by_cases h3 : e = 0
    · rw [if_pos h3]
      by_cases h4 : (a.size : Int) > 64
      · rw [if_pos h4, if_pos (.inr (.inl (by omega)))]
      · rw [if_neg h4, refText_is a b ha hb k (by omega)]
        simp only [Option.bind_some]
        rw [str_size]
        by_cases h5 : ((textL (bs a) (bs b)).length : Int) > 254
        · rw [if_pos h5, if_pos (.inr (.inr (by omega)))]
        · rw [if_neg h5, if_neg (by rintro (h | h | h); exact h h3; omega; omega)]
    · rw [if_neg h3, if_pos (.inl h3)]
  | c :: rest, i, k, hd, hi, hk => by
    obtain ⟨k, rfl⟩ : ∃ j, k = j + 1 := ⟨k - 1, by omega⟩
    obtain ⟨h1, h2, h3, h4⟩ := drop_cons hd
    have h5 : i < a.size := by rw [bs_length] at h1; exact h1
    simp only [List.length_cons] at hk
    rw [bulletinref13_Why.l0, if_pos (by omega), if_pos (by omega), bt_drop hd]
    by_cases hp : plainB c = true
    · have hp' := hp
      unfold plainB at hp'
      simp at hp'
      rw [if_neg (by omega), if_neg (by omega), wrap_succ i (by omega), refWhy_l0 a b ha hb e rest (i + 1) k h3 (by omega) (by omega)]
      simp [hp]
    · have hp' := hp
      unfold plainB at hp'
      simp at hp'
      have : (c :: rest).all plainB = false := by simp [hp]
      rw [this, if_neg (c := false = true) (by decide)]
      by_cases hc : (c.toNat : Int) < 32
      · rw [if_pos hc]
      · rw [if_neg hc, if_pos (by omega)]
theorem refWhy_is (a b : ByteArray) (ha : a.size ≤ 1000000) (hb : b.size ≤ 1000000) (k : Nat) (hk : 3 * a.size + 3 * b.size + 60 ≤ k) : bulletinref13_Why.f k a b = some (why a b) := by
  unfold bulletinref13_Why.f why
  rw [refDomain_is b hb k (by omega), domain_L, plain_L]
  simp only [Option.bind_some]
  obtain ⟨k, rfl⟩ : ∃ j, k = j + 1 := ⟨k - 1, by omega⟩
  have yes : bulletinref13_Why.j0 (k + 1) (domainL (bs b)) true a b = some 130 := by rw [bulletinref13_Why.j0, if_pos rfl]
  by_cases h1 : domainL (bs b) = 130
  · rw [if_pos h1, if_pos (.inl h1), yes]
  · rw [if_neg h1, toList_bs]
    by_cases h2 : bs a = []
    · rw [h2, if_pos (.inr (.inl rfl))]
      exact yes
    · rw [show (bs a == []) = false by simpa using h2, bulletinref13_Why.j0, if_neg (by decide)]
      have hl0 := refWhy_l0 a b ha hb (domainL (bs b)) (bs a) 0 k (by simp) (by omega) (by rw [bs_length]; omega)
      rw [show ((0 : Nat) : Int) = 0 from rfl] at hl0
      rw [hl0]
      cases hp : (bs a).all plainB with
      | false => rw [if_neg (by decide), if_pos (.inr (.inr rfl))]
      | true => rw [if_pos rfl, if_neg (c := domainL (bs b) = 130 ∨ _) (by simp [h1, h2])]
theorem refRight_is (a b : ByteArray) (ha : a.size ≤ 1000000) (hb : b.size ≤ 1000000) (k : Nat) (hk : 3 * a.size + 3 * b.size + 60 ≤ k) : bulletinref13_Right.f k a b = some (right a b) := by
  unfold bulletinref13_Right.f right
  rw [refWhy_is a b ha hb k hk]
  simp only [Option.bind_some]
  by_cases h : why a b = 0
  · rw [if_pos h, reffold_is b (by omega) k (by omega)]
    simp only [Option.bind_some]
    rw [toList_bs, toList_bs, bs_str]
    have : (fold (bs b) == bs b) = (bs b == fold (bs b)) := by
      rw [Bool.eq_iff_iff, beq_iff_eq, beq_iff_eq]
      exact ⟨fun h => h.symm, fun h => h.symm⟩
    rw [this]
    simp [h]
  · rw [if_neg h]
    simp [h]
theorem refKey_is (a b : ByteArray) (ha : a.size ≤ 1000000) (hb : b.size ≤ 1000000) (k : Nat) (hk : 2 * a.size + b.size + 60 ≤ k) : bulletinref13_Key.f k a b = some (str (fold (textL (bs a) (bs b)))) := by
  unfold bulletinref13_Key.f
  have := textL_length (bs a) (bs b)
  rw [bs_length, bs_length] at this
  rw [refText_is a b ha hb k (by omega)]
  simp only [Option.bind_some]
  rw [reffold_is _ (by rw [str_size]; omega) k (by rw [str_size]; omega), bs_str]
  rfl
end Go.Proofs.YtlomcmdbbnbciaaDoor.Pl
set_option linter.unusedVariables false
namespace Go.Proofs.YtlomcmdbbnbciaaDoor.Pl
open Go.RowKit Go.Proofs.YtlomcmdbbnbciaaDoorW.PrintWords Go.Proofs.YtlomcmdbbnbciaaDoor.Fn
set_option maxRecDepth 100000 in
theorem works13_at : bulletinlaw13_works.f 100 = some true := by decide +kernel
theorem works13 (k : Nat) (hk : 100 ≤ k) : bulletinlaw13_works.f k = some true := mono_up bulletinlaw13_works.mono works13_at k hk
end Go.Proofs.YtlomcmdbbnbciaaDoor.Pl
set_option linter.unusedVariables false
namespace Go.Proofs.YtlomcmdbbnbciaaDoor.Pl
open Go.RowKit Go.Proofs.YtlomcmdbbnbciaaDoorW.PrintWords Go.Proofs.YtlomcmdbbnbciaaDoor.Fn

theorem AddrWrites (a0 a1 b : ByteArray) : ∃ k, bulletinlaw13_AddrWrites.f k a0 a1 b = some true := by
  refine ⟨20000 + 1, ?_⟩
  generalize hk : (20000 : Nat) = k
  have hw := works13 k (by omega)
  unfold bulletinlaw13_AddrWrites.f
  have yes : bulletinlaw13_AddrWrites.j0 (k + 1) b true a0 a1 = some true := by
    rw [bulletinlaw13_AddrWrites.j0, if_pos rfl, hw]
    rfl
  by_cases h1 : (a0.size : Int) > 500
  · rw [if_pos h1, yes]
  rw [if_neg h1]
  by_cases h2 : (a1.size : Int) > 500
  · rw [if_pos h2, yes]
  rw [if_neg h2]
  by_cases h3 : (b.size : Int) > 500
  · rw [show decide ((b.size : Int) > 500) = true by simpa using h3, yes]
  rw [show decide ((b.size : Int) > 500) = false by simpa using h3, bulletinlaw13_AddrWrites.j0, if_neg (by decide)]
  rw [addrDomain_is b (by omega), refDomain_is b (by omega) k (by omega)]
  simp only [bulletinlaw13_To.f, Option.bind_some]
  rw [addrText_is a0 a1 (by omega) (by omega) k (by omega), refText_is a0 a1 (by omega) (by omega) k (by omega)]
  simp only [Option.bind_some, if_true]
  rw [addrKey_is a0 a1 (by omega) (by omega) k (by omega), refKey_is a0 a1 (by omega) (by omega) k (by omega)]
  simp only [Option.bind_some, if_true]
  rw [addrRight_is a0 a1 (by omega) (by omega) k (by omega), refRight_is a0 a1 (by omega) (by omega) k (by omega)]
  simp only [Option.bind_some, if_true, beq_self_eq_true]
  unfold addr_Dotted.f
  rw [if_pos (by omega), refDotted_is b (by omega) k (by omega)]
  simp only [Option.bind_some]
  rw [dotted_L, hw]
  simp
end Go.Proofs.YtlomcmdbbnbciaaDoor.Pl
set_option linter.unusedVariables false
namespace Go.Proofs.YtlomcmdbbnbciaaDoor
open Go.ChangeShapes Go.WideShapes Go.ChangeAt Go.RowKit

/-! What all rows of this seat share: a world that meets the condition; the premises as the walks want them. -/
theorem own : ownKnob Tryd.prog.godebug = none := by kernel_rfl
theorem laidOut : laidOutB Tryd.prog = true := by kernel_rfl
def listed : List (String × DataW Unit) := [("unicode/utf8.acceptRanges", Rows.laid_unicode_utf8_acceptRanges), ("unicode/utf8.first", Rows.laid_unicode_utf8_first)]
noncomputable def laidWorld (os : Os) : World :=
  let w0 := World.holding Tryd.prog os ⟨#[], #[], []⟩
  let put (h : Array Obj) (g : Nat) (cs : Array Value) : Array Obj := h.modify g fun
    | .cells _ t frozen => .cells cs t frozen
    | o => o
  let h1 := put w0.heap 0 (Lib.firstTab.map fun z => Value.int .u8 z).toArray
  let h2 := put h1 1 ((List.range 16).flatMap fun i => [Value.int .u8 (Lib.accLo i), Value.int .u8 (Lib.accHi i)]).toArray
  { w0 with heap := h2 }
set_option maxRecDepth 100000 in
theorem laid_met (os : Os) (args : Array Value) : laidMetH Tryd.prog listed ((laidWorld os).forCall (fun _ _ => 0) ⟨#[], args, []⟩).memory :=
  laidMetH_of_parts (laidMet_of_run' 8 (by kernel_rfl) (by kernel_rfl)) (by kernel_rfl)

theorem lift_both {H : Type} {enc : TypeId × Value → H} {a : Assume} {C : Checked} {os : Os} {f : FuncId} {fn : Func} {s : ChangeSpec} {conds : List PathCond} {apart fresh handsOn again : Bool} {X : World → Array Value → Prop}
    (hX : ∀ (w w' : World) (args : Array Value), w.heap = w'.heap → X w args → X w' args)
    (own : ownKnob C.prog.godebug = none) (started : os.Started) (noInit : C.prog.inits.idxOf? f = none) (hfn : C.prog.funcs[f]? = some fn)
    (witness : ∃ (w : World) (tape : Tape) (i : Input), w.os = os ∧ (w.forCall tape i).Shaped C.prog ∧ i.vars = [] ∧ Input.okWide C.prog (w.forCall tape i) .any w.heap.size f i ∧
      ((s.pre enc C.prog fn conds apart (w.forCall tape i).memory i.args ∧ X (w.forCall tape i).memory i.args) ∧ sizedMet enc C.prog fn (OpenSpec.ofChange s) apart (w.forCall tape i).memory i.args) ∧ a.holds C.prog (lone (Frame.enter C.prog f i.args .normal) [] (w.forCall tape i)))
    (contract : ∀ (W : World) (base : Nat) (args : Array Value) (ds gs : List (DataW H)) (before : List MemPlace),
      (∀ (j : Nat) t v, fn.params[j]? = some t → args[j]? = some v → Value.okWide C.prog W .any base t v) →
      DataW.Whole enc C.prog fn.params.toList s.vars apart W args.toList ds gs before →
      (DataW.weightsEach C.prog (fn.params.toList ++ s.plain.varTypes C.prog) (ds ++ gs)).all (· ≤ reachBytes) = true → X W args → W.ShapedOpen C.prog →
      Calls C.prog f args W fun e W' => ∃ v, e = .returned v ∧ s.post enc C.prog fn apart fresh handsOn again W args v W') :
    ReturnsInHanded a C os f .any (fun w args => (s.pre enc C.prog fn conds apart w args ∧ X w args) ∧ sizedMet enc C.prog fn (OpenSpec.ofChange s) apart w args) (s.post enc C.prog fn apart fresh handsOn again) := by
  refine returnsInHanded_of_calls own started noInit witness ?_
  intro w tape i _ hsh _ hok hpre _
  obtain ⟨_, _, _, fn', hfn', _, _, _, _, hval⟩ := hok
  have e : fn' = fn := Option.some.inj (hfn'.symm.trans hfn)
  subst e
  obtain ⟨⟨⟨ds, gs, before, hw, _⟩, hx⟩, hz⟩ := hpre
  have hw' := DataW.Whole.of_heap (w' := w.forCall tape i) (by rfl) hw
  refine (contract (w.forCall tape i) w.heap.size i.args ds gs before hval hw' (hz.weights hw) (hX _ _ _ (by rfl) hx) hsh).mono fun e W' ⟨v, he, hp⟩ => ?_
  subst he
  exact ChangeSpec.post_blind hp
end Go.Proofs.YtlomcmdbbnbciaaDoor
-- the row of the law AddrWrites, out of its pure statement and its walk
namespace Go.Proofs.YtlomcmdbbnbciaaDoor.addrWrites
open Go.ChangeShapes Go.WideShapes Go.ChangeAt Go.RowKit Go.Joins
open Go.ChangeMaps (open_string shut_string)
set_option maxRecDepth 100000 in
theorem lifted (os : Os) (started : os.Started) (H : Type) (enc : TypeId × Value → H) :
    ReturnsInHanded {} Tryd.checked os 5 .any (fun w args => (Rows.addrWritesSpec.pre enc Tryd.prog Tryd.f5 [] false w args ∧ laidMetH Tryd.prog listed w) ∧ sizedMet enc Tryd.prog Tryd.f5 (OpenSpec.ofChange Rows.addrWritesSpec) false w args) (Rows.addrWritesSpec.post enc Tryd.prog Tryd.f5 false true false false) := by
  refine lift_both (C := Tryd.checked) (X := fun w _ => laidMetH Tryd.prog listed w) (fun _ _ _ hh h => h.of_heap hh) own started (by kernel_rfl) Tryd.func5
    (ChangeSpec.witness_at (enc := enc) (C := Tryd.checked) (os := os) (X := fun w _ => laidMetH Tryd.prog listed w) false (laidWorld os) #[.agg #[.string ByteArray.empty, .string ByteArray.empty], .string ByteArray.empty] 8 rfl (by kernel_rfl) (by kernel_rfl) (by kernel_rfl) (by kernel_rfl) (by kernel_rfl) (laid_met os _)) ?_
  intro W base args ds gs before hval0 hW _ hL hSh
  have hval : ∀ (j : Nat) t v, Tryd.f5.params[j]? = some t → args[j]? = some v → Value.okWide Tryd.prog W .any base t v := hval0
  have hW' := hW
  obtain ⟨p, q, hA0, hV, rfl, _, _⟩ := hW
  have hA : DataW.TrodAll enc Tryd.prog W 0 (fun _ => true) true Tryd.f5.params.toList args.toList ds p := hA0
  rw [Tryd.params5] at hA hval
  obtain ⟨v0, vs0, d0, ds0, p0, q0, hargs, rfl, rfl, h0, r0⟩ := trodAll_cons hA
  obtain ⟨v1, vs1, d1, ds1, p1, q1, rfl, rfl, rfl, h1, r1⟩ := trodAll_cons r0
  obtain ⟨rfl, rfl, rfl⟩ := trodAll_nil r1
  obtain rfl : args = #[v0, v1] := by cases args; simp_all
  obtain ⟨rfl, rfl⟩ := trodVars_none hV
  have k0 := h0
  have lt0 : ∀ x ∈ p0, x.block < W.heap.size := by obtain ⟨m, hm⟩ := k0; exact DataW.trod_lt m _ _ _ hm
  obtain ⟨c0_0, c0_1, y0_0, y0_1, m0, rfl, _, _, g0_0, g0_1⟩ := open_agg2 Tryd.underlying31 (by kernel_rfl) (by kernel_rfl) (hval 0 31 v0 rfl rfl) h0
  obtain ⟨a0_0, e0_0, _, _⟩ := DataW.trod_string Tryd.underlying9 g0_0
  simp only [List.cons.injEq, and_true] at e0_0
  subst e0_0
  obtain ⟨a0_1, e0_1, _, _⟩ := DataW.trod_string Tryd.underlying9 g0_1
  simp only [List.cons.injEq, and_true] at e0_1
  subst e0_1
  have k1 := h1
  have lt1 : ∀ x ∈ p1, x.block < W.heap.size := by obtain ⟨m, hm⟩ := k1; exact DataW.trod_lt m _ _ _ hm
  obtain ⟨a1, rfl, _, _, _⟩ := open_string Tryd.underlying9 (hval 1 9 v1 rfl rfl) h1
  obtain ⟨k, hk⟩ := Pl.AddrWrites a0_0 a0_1 a1
  refine (Fn.bulletinlaw13_AddrWrites.calls k a0_0 a0_1 a1 true W hk).mono ?_
  rintro e W' ⟨rfl, bel⟩
  exact ⟨_, rfl, _, _, _, [], _, [], hW', trodAll_mk1 (shut_bool Tryd.underlying4 _), (trodAll_cons_mk (Below.trod laidOut (by kernel_rfl) (of_decide_eq_true (by kernel_rfl)) k0 bel lt0) (trodAll_cons_mk (Below.trod laidOut (by kernel_rfl) (of_decide_eq_true (by kernel_rfl)) k1 bel lt1) trodAll_mk0)), rfl, bel.frame _, fun h => by cases h⟩
theorem over : Rows.addrWritesRow.holds Tryd.pinned (OpenSpec.ofChange Rows.addrWritesSpec) :=
  OpenClaim.holds_of_wide 5 Tryd.f5 rfl rfl rfl rfl rfl rfl rfl ⟨rfl, rfl, rfl, rfl, rfl⟩ rfl rfl rfl rfl rfl (by kernel_rfl) Tryd.func5 (by kernel_rfl)
    (of_decide_eq_true (by kernel_rfl)) (by unfold Func.isWrapper; first | (rw [if_pos (by decide +kernel)]; kernel_rfl) | (rw [if_neg (by decide +kernel)]; exact ⟨rfl, rfl⟩))
    (fun os started H enc _ => lifted os started H enc)
theorem proved : Rows.AddrWritesSaid := over
#print axioms proved
theorem card : Rows.AddrWritesCardSaid :=
  Claim7.holds_tied_plain_at .later [] [.data, .pinned] true (true, "a3f6bcdc9cb347ffdc7221f102fbc562a39496553b45ea8bedd4c5b8b6bf59b8") false
    proved (fun _ h => by cases h) (by kernel_rfl) (fun _ h => by cases h) addrWrites_row_tie rfl ⟨rfl, rfl⟩ (by kernel_rfl) rfl
    (fun f fn hf hfn => by
      obtain rfl : f = 5 := Option.some.inj ((show Tryd.prog.funcNamed "bulletin/bulletinlaw13.AddrWrites" = some 5 by kernel_rfl).symm.trans hf) |>.symm
      obtain rfl : fn = Tryd.f5 := (Option.some.inj (Tryd.func5.symm.trans hfn)).symm
      exact ⟨by kernel_rfl, fun j t ht => by
        rw [Tryd.params5] at ht
        have hall : ([31, 9] : List TypeId).all (fun t => !(Tryd.prog.wantsStandIn t)) = true := by kernel_rfl
        have hm : t ∈ ([31, 9] : List TypeId) := by simpa using Array.mem_of_getElem? ht
        have h2 : Tryd.prog.wantsStandIn t = false := by simpa using List.all_eq_true.1 hall t hm
        exact h2⟩)
    (by kernel_rfl)
#print axioms card
end Go.Proofs.YtlomcmdbbnbciaaDoor.addrWrites
namespace Go.Proofs.YtlomcmdbbnbciaaDoor
theorem addrWrites_holds : Rows.AddrWritesCardSaid := addrWrites.card
end Go.Proofs.YtlomcmdbbnbciaaDoor
