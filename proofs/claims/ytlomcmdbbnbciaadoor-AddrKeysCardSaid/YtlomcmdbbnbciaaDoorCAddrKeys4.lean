/- The law bulletinlaw13.AddrKeys returns true for every input: two right addresses have one key just if their domains are the same, and their local parts but for capital letters; the tables of unicode/utf8 are as the program's text lays them. -/
import Derived.Test.YtlomcmdbbnbciaaDoorCAddrKeys3
import Derived.Test.YtlomcmdbbnbciaaDoorRows
import Derived.HandedShaped
import Derived.LaidLaws
import Derived.LaidHandle
import Derived.Deep.DeepLaidRun
import Derived.Stop.Joined
import Derived.PinnedBridge
import Derived.Lib.LaidU8
import Derived.ProofKit
import Derived.Test.YtlomcmdbbnbciaaDoorTie
import Derived.Test.YtlomcmdbbnbciaaDoorCards
import Derived.WalkKit
import Derived.OpenShut
import Derived.ShutString
import Derived.ChangeOld
import Derived.Below
import Derived.SizedLaws
import Derived.Lib.SmallJoins
import Derived.SevenTiedAt
set_option linter.unusedVariables false
namespace Go.Proofs.YtlomcmdbbnbciaaDoor.Pl
open Go.RowKit Go.Proofs.YtlomcmdbbnbciaaDoorW.PrintWords Go.Proofs.YtlomcmdbbnbciaaDoor.Fn

/-! Layer 13, the program's, over lists of bytes. -/
theorem mono_up {α : Type} {f : Nat → Option α} (h : ∀ k, LeO (f k) (f (k + 1))) {r : α} {k : Nat} (hr : f k = some r) : ∀ (k' : Nat), k ≤ k' → f k' = some r := by
  intro k' hk
  obtain ⟨d, rfl⟩ : ∃ d, k' = k + d := ⟨k' - k, by omega⟩
  clear hk
  induction d with
  | zero => exact hr
  | succ d ih => exact h (k + d) r ih

/-- what stands between the bytes of one kind -/
def splitL (c : UInt8) : Bytes → List Bytes
  | [] => [[]]
  | x :: l => if x = c then [] :: splitL c l else match splitL c l with
    | [] => [[x]]
    | w :: r => (x :: w) :: r
theorem splitL_ne (c : UInt8) (l : Bytes) : splitL c l ≠ [] := by
  cases l with
  | nil => simp [splitL]
  | cons x l =>
    rw [splitL]
    split
    · simp
    · split <;> simp
theorem indexByte_neg (c : UInt8) : ∀ l : Bytes, Lib.indexByte l c < 0 → splitL c l = [l]
  | [], _ => rfl
  | b :: l, h => by
    rw [Lib.indexByte] at h
    have hb : ¬ (b == c) = true := fun q => by rw [if_pos q] at h; omega
    rw [if_neg hb] at h
    by_cases h2 : (Lib.indexByte l c == -1) = true
    · have h3 : Lib.indexByte l c = -1 := by simpa using h2
      rw [splitL, if_neg (by simpa using hb), indexByte_neg c l (by omega)]
    · rw [if_neg h2] at h
      have := Lib.indexByte_ge l c
      have h4 : Lib.indexByte l c ≠ -1 := by simpa using h2
      omega
theorem indexByte_nat (c : UInt8) : ∀ (l : Bytes) (n : Nat), Lib.indexByte l c = n → splitL c l = l.take n :: splitL c (l.drop (n + 1))
  | [], n, h => by simp [Lib.indexByte] at h
  | b :: l, n, h => by
    rw [Lib.indexByte] at h
    by_cases hb : (b == c) = true
    · rw [if_pos hb] at h
      obtain rfl : n = 0 := by omega
      rw [splitL, if_pos (by simpa using hb)]
      simp
    · rw [if_neg hb] at h
      by_cases h2 : (Lib.indexByte l c == -1) = true
      · rw [if_pos h2] at h; omega
      · rw [if_neg h2] at h
        have h3 := Lib.indexByte_ge l c
        have h4 : Lib.indexByte l c ≠ -1 := by simpa using h2
        obtain ⟨m, rfl⟩ : ∃ m, n = m + 1 := ⟨n - 1, by omega⟩
        have ih := indexByte_nat c l m (by omega)
        rw [splitL, if_neg (by simpa using hb), ih]
        simp
theorem cuts_split (c : UInt8) : ∀ (n : Nat) (s : ByteArray), s.size ≤ n → (cuts (findOne c) 1 s).map bs = splitL c (bs s)
  | n, s, hn => by
    by_cases h0 : findOne c s < 0
    · rw [cuts_last (finds_one c) s h0, indexByte_neg c (bs s) h0]
      rfl
    · obtain ⟨N, hN⟩ : ∃ N : Nat, findOne c s = (N : Int) := ⟨(findOne c s).toNat, by omega⟩
      have hfit := (finds_one c).fits s (by omega)
      rw [hN] at hfit
      simp only [Int.toNat_natCast] at hfit
      rw [cuts_more (finds_one c) s h0, hN, indexByte_nat c (bs s) N hN]
      obtain ⟨n, rfl⟩ : ∃ m, n = m + 1 := ⟨n - 1, by omega⟩
      have ih := cuts_split c n (s.extract (N + 1) s.size) (by simp only [ByteArray.size_extract]; omega)
      simp only [Int.toNat_natCast, List.map_cons, ih, bs_extract, List.drop_zero]
      rw [List.take_of_length_le (i := s.size) (by rw [bs_length]; exact Nat.le_refl _)]
theorem dots_split (s : ByteArray) : (dots s).map bs = splitL 46 (bs s) := cuts_split 46 s.size s (Nat.le_refl _)
theorem all_map_bs (p : Bytes → Bool) (l : List ByteArray) : (l.map bs).all p = l.all (fun x => p (bs x)) := by
  rw [List.all_map]; rfl

def atomL (w : Bytes) : Bool := w.all atomic && !w.isEmpty
def dottedL (l : Bytes) : Bool := (splitL 46 l).all atomL
theorem dotted_L (s : ByteArray) : dotted s = dottedL (bs s) := by
  unfold dotted dottedL
  rw [← dots_split, all_map_bs]
  rfl
def domLongL (l : Bytes) : Bool := decide (253 < l.length) || (splitL 46 l).any (fun w => decide (63 < w.length))
def domainL (l : Bytes) : Int := if (splitL 46 l).all labelL = true then (if domLongL l = true then 2 else 0) else 130
theorem domain_L (s : ByteArray) : domain s = domainL (bs s) := by
  unfold domain domainL domLong domLongL
  rw [← dots_split, all_map_bs, List.any_map]
  have e1 : (dots s).all label = (dots s).all (fun x => labelL (bs x)) := rfl
  have e2 : ((fun w : Bytes => decide (63 < w.length)) ∘ bs) = (fun x : ByteArray => decide (63 < (x.size : Int))) := by
    funext x
    simp only [Function.comp, bs_length]
    congr 1
    exact propext ⟨fun h => by omega, fun h => by omega⟩
  have e3 : decide (253 < (bs s).length) = decide (253 < (s.size : Int)) := by
    rw [bs_length]
    congr 1
    exact propext ⟨fun h => by omega, fun h => by omega⟩
  rw [e1, e2, e3]

/-! Quote -/
def text (c : UInt8) : Bool := (lex_text.f (c.toNat : Int)).getD false
theorem text_is (c : UInt8) : lex_text.f (c.toNat : Int) = some (text c) := by
  have : ∀ x : Int, (lex_text.f x).isSome := by
    intro x
    unfold lex_text.f
    repeat' split
    all_goals rfl
  unfold text
  have h := this (c.toNat : Int)
  cases hx : lex_text.f (c.toNat : Int) with
  | none => rw [hx] at h; cases h
  | some b => rfl
def qB (c : UInt8) : Bytes := if c = 34 ∨ c = 92 then [92, c] else if text c = true then [c] else [32]
def quote (l : Bytes) : Bytes := 34 :: (l.flatMap qB ++ [34])
def numsOf (l : Bytes) : List Int := l.map fun c => (c.toNat : Int)
theorem strOfNums_of (l : Bytes) : strOfNums (numsOf l) = str l := by
  unfold strOfNums numsOf str
  congr 2
  rw [List.map_map]
  conv => rhs; rw [← List.map_id l]
  apply List.map_congr_left
  intro c _
  simp
theorem numsOf_app (a b : Bytes) : numsOf (a ++ b) = numsOf a ++ numsOf b := by simp [numsOf]
theorem numsOf_length (a : Bytes) : (numsOf a).length = a.length := by simp [numsOf]
theorem byte_eq (c : UInt8) (n : Nat) (h : n < 256) : ((c.toNat : Int) = (n : Int)) = (c = UInt8.ofNat n) := by
  apply propext
  constructor
  · intro q
    apply UInt8.toNat_inj.1
    simp
    omega
  · intro q
    rw [q]
    simp
    omega
theorem lexQuote_l0 (s : ByteArray) (hs : s.size ≤ 1000000000) : ∀ (rest : Bytes) (i k : Nat) (acc : Bytes), (bs s).drop i = rest → i ≤ (bs s).length → 2 * rest.length + 1 ≤ k → acc.length ≤ 2 * i + 1 →
    lex_Quote.l0 k s (numsOf acc) (s.size : Int) (i : Int) = some (str (acc ++ rest.flatMap qB ++ [34]))
  | [], i, k, acc, hd, hi, hk, ha => by
    obtain ⟨k, rfl⟩ : ∃ j, k = j + 1 := ⟨k - 1, by omega⟩
    have := drop_nil hd
    rw [bs_length] at this hi
    rw [lex_Quote.l0, if_neg (by omega), if_pos (by rw [numsOf_length]; omega)]
    rw [show numsOf acc ++ [34] = numsOf (acc ++ [34]) by rw [numsOf_app]; rfl, strOfNums_of]
    simp
  | c :: rest, i, k, acc, hd, hi, hk, ha => by
    obtain ⟨k, rfl⟩ : ∃ j, k = j + 1 + 1 := ⟨k - 2, by simp at hk; omega⟩
    obtain ⟨h1, h2, h3, h4⟩ := drop_cons hd
    have h5 : i < s.size := by rw [bs_length] at h1; exact h1
    simp only [List.length_cons] at hk
    have e34 : ((c.toNat : Int) = 34) = (c = 34) := byte_eq c 34 (by decide)
    have e92 : ((c.toNat : Int) = 92) = (c = 92) := byte_eq c 92 (by decide)
    have goon : ∀ acc' : Bytes, acc'.length ≤ acc.length + 2 → lex_Quote.l0 k s (numsOf acc') (s.size : Int) (wrap64 ((i : Int) + 1)) = some (str (acc' ++ rest.flatMap qB ++ [34])) := by
      intro acc' hl
      rw [wrap_succ i (by omega)]
      exact lexQuote_l0 s hs rest (i + 1) k acc' h3 (by omega) (by omega) (by omega)
    have hl1 : (numsOf acc).length < 140737488355328 := by rw [numsOf_length]; omega
    have esc : c = 34 ∨ c = 92 → lex_Quote.j1 (k + 1) s (numsOf acc) (c.toNat : Int) (s.size : Int) (i : Int) true = some (str (acc ++ (c :: rest).flatMap qB ++ [34])) := by
      intro hc
      rw [lex_Quote.j1, if_pos rfl, if_pos hl1]
      simp only [Option.bind_some]
      rw [if_pos (by rw [List.length_append, numsOf_length]; simp; omega)]
      rw [show numsOf acc ++ [92] ++ [(c.toNat : Int)] = numsOf (acc ++ [92, c]) by simp [numsOf], goon _ (by simp)]
      simp [qB, hc]
    rw [lex_Quote.l0, if_pos (by omega), if_pos (by omega), if_pos (by omega), bt_drop hd]
    by_cases c34 : c = 34
    · rw [if_pos (by rw [e34]; exact c34), esc (.inl c34)]
    · rw [if_neg (by rw [e34]; exact c34)]
      by_cases c92 : c = 92
      · rw [show ((c.toNat : Int) == 92) = true by rw [beq_iff_eq, e92]; exact c92, esc (.inr c92)]
      · rw [show ((c.toNat : Int) == 92) = false by rw [beq_eq_false_iff_ne, ne_eq, e92]; exact c92, lex_Quote.j1, if_neg (by decide), text_is]
        simp only [Option.bind_some]
        have hn : ¬ (c = 34 ∨ c = 92) := fun h => h.elim c34 c92
        cases ht : text c with
        | true =>
          rw [if_pos rfl, if_pos hl1, show numsOf acc ++ [(c.toNat : Int)] = numsOf (acc ++ [c]) by simp [numsOf], goon _ (by simp)]
          simp [qB, hn, ht]
        | false =>
          rw [if_neg (by decide), if_pos hl1, show numsOf acc ++ [32] = numsOf (acc ++ [32]) by simp [numsOf], goon _ (by simp)]
          simp [qB, hn, ht]
theorem lexQuote_is (s : ByteArray) (hs : s.size ≤ 1000000000) (k : Nat) (hk : 2 * s.size + 1 ≤ k) : lex_Quote.f k s = some (str (quote (bs s))) := by
  have := lexQuote_l0 s hs (bs s) 0 k [34] (by simp) (by omega) (by rw [bs_length]; omega) (by simp)
  unfold lex_Quote.f quote
  exact this
theorem quote_length (l : Bytes) : (quote l).length ≤ 2 * l.length + 2 := by
  have h : (l.flatMap qB).length ≤ 2 * l.length := by
    induction l with
    | nil => simp
    | cons c l ih =>
      have : (qB c).length ≤ 2 := by unfold qB; repeat' split
                                     all_goals simp
      simp only [List.flatMap_cons, List.length_append, List.length_cons]
      omega
  unfold quote
  simp only [List.length_cons, List.length_append, List.length_nil]
  omega

/-! Text, Key, why, Right -/
def localL (a : Bytes) : Bytes := if dottedL a = true then a else quote a
def textL (a b : Bytes) : Bytes := localL a ++ 64 :: b
theorem localL_length (a : Bytes) : (localL a).length ≤ 2 * a.length + 2 := by
  unfold localL
  have := quote_length a
  split <;> omega
theorem addrText_is (a b : ByteArray) (ha : a.size ≤ 1000000) (hb : b.size ≤ 1000000) (k : Nat) (hk : 2 * a.size + 1 ≤ k) : addr_Addr_Text.f k a b = some (str (textL (bs a) (bs b))) := by
  unfold addr_Addr_Text.f addr_Dotted.f textL localL
  rw [if_pos (by omega)]
  simp only [Option.bind_some]
  rw [dotted_L]
  cases hd : dottedL (bs a) with
  | true =>
    rw [if_pos rfl, if_pos (by omega), if_pos (by simp only [ByteArray.size_append]; have : (⟨#[64]⟩ : ByteArray).size = 1 := rfl; omega), if_pos rfl]
    congr 1
    apply bs_inj
    rw [bs_app, bs_app, bs_str]
    simp [bs]
  | false =>
    have hq := quote_length (bs a)
    rw [bs_length] at hq
    rw [if_neg (by decide), lexQuote_is a (by omega) k hk]
    simp only [Option.bind_some]
    rw [if_pos (by rw [str_size]; omega), if_pos (by simp only [ByteArray.size_append, str_size]; have : (⟨#[64]⟩ : ByteArray).size = 1 := rfl; omega), if_neg (by decide)]
    congr 1
    apply bs_inj
    rw [bs_app, bs_app, bs_str, bs_str]
    simp [bs]
theorem textL_length (a b : Bytes) : (textL a b).length ≤ 2 * a.length + 3 + b.length := by
  unfold textL
  have := localL_length a
  simp
  omega
theorem addrKey_is (a b : ByteArray) (ha : a.size ≤ 1000000) (hb : b.size ≤ 1000000) (k : Nat) (hk : 2 * a.size + 1 ≤ k) : addr_Addr_Key.f k a b = some (str (fold (textL (bs a) (bs b)))) := by
  unfold addr_Addr_Key.f
  rw [addrText_is a b ha hb k hk]
  have := textL_length (bs a) (bs b)
  rw [bs_length, bs_length] at this
  simp only [Option.bind_some]
  unfold glyph_Fold.f
  rw [if_pos (by rw [str_size]; omega)]
  simp only [Option.bind_some]
  rw [show (str (textL (bs a) (bs b))).data.toList = textL (bs a) (bs b) from str_data _]
def why (a b : ByteArray) : Int :=
  if domain b = 130 ∨ bs a = [] ∨ plain a = false then 130
  else if domain b ≠ 0 ∨ 64 < a.size ∨ 254 < (textL (bs a) (bs b)).length then 2 else 0
theorem addrWhy_is (a b : ByteArray) (ha : a.size ≤ 1000000) (hb : b.size ≤ 1000000) (k : Nat) (hk : 2 * a.size + 1 + 1 ≤ k) : addr_why.f k a b = some (why a b) := by
  unfold addr_why.f addr_domain.f why
  rw [if_pos (by omega)]
  simp only [Option.bind_some]
  obtain ⟨k, rfl⟩ : ∃ j, k = j + 1 := ⟨k - 1, by omega⟩
  have yes : addr_why.j0 (k + 1) (domain b) true a b = some 130 := by rw [addr_why.j0, if_pos rfl]
  by_cases h1 : domain b = 130
  · rw [if_pos h1, if_pos (.inl h1), yes]
  · rw [if_neg h1]
    by_cases h2 : bs a = []
    · rw [if_pos (by rw [toList_bs]; exact h2), if_pos (.inr (.inl h2)), yes]
    · rw [if_neg (by rw [toList_bs]; exact h2)]
      unfold glyph_Plain.f
      rw [if_pos (by omega)]
      simp only [Option.bind_some]
      cases hp : plain a with
      | false => rw [if_pos (.inr (.inr rfl)), show (!false) = true from rfl, yes]
      | true =>
        rw [if_neg (by simp [h1, h2]), show (!true) = false from rfl, addr_why.j0, if_neg (by decide)]
        by_cases h3 : domain b = 0
        · rw [if_pos h3]
          by_cases h4 : (a.size : Int) > 64
          · rw [if_pos h4, if_pos (.inr (.inl (by omega)))]
          · rw [if_neg h4, addrText_is a b ha hb k (by omega)]
            simp only [Option.bind_some]
            rw [str_size]
            by_cases h5 : ((textL (bs a) (bs b)).length : Int) > 254
            · rw [if_pos h5, if_pos (.inr (.inr (by omega)))]
            · rw [if_neg h5, if_neg (by rintro (h | h | h); exact h h3; omega; omega)]
        · rw [if_neg h3, if_pos (.inl h3)]
def right (a b : ByteArray) : Bool := decide (why a b = 0) && (bs b == fold (bs b))
theorem addrRight_is (a b : ByteArray) (ha : a.size ≤ 1000000) (hb : b.size ≤ 1000000) (k : Nat) (hk : 2 * a.size + 1 + 1 ≤ k) : addr_Addr_Right.f k a b = some (right a b) := by
  unfold addr_Addr_Right.f right
  rw [addrWhy_is a b ha hb k hk]
  simp only [Option.bind_some]
  by_cases h : why a b = 0
  · rw [if_pos h]
    unfold glyph_Fold.f
    rw [if_pos (by omega)]
    simp only [Option.bind_some]
    rw [toList_bs, toList_str]
    simp [h, bs]
  · rw [if_neg h]
    simp [h]
end Go.Proofs.YtlomcmdbbnbciaaDoor.Pl
set_option linter.unusedVariables false
namespace Go.Proofs.YtlomcmdbbnbciaaDoor.Pl
open Go.RowKit Go.Proofs.YtlomcmdbbnbciaaDoorW.PrintWords Go.Proofs.YtlomcmdbbnbciaaDoor.Fn

/-! Capital letters, dots, quotes and the sign @. -/
theorem forall_byte {p : UInt8 → Prop} [DecidablePred p] (h : ∀ i : Fin 256, p (UInt8.ofNat i.val)) (c : UInt8) : p c := by
  have := h ⟨c.toNat, c.toNat_lt⟩
  simpa using this
set_option maxRecDepth 100000 in
theorem atomic_fold (c : UInt8) : atomic (foldB c) = atomic c := forall_byte (p := fun c => atomic (foldB c) = atomic c) (by decide +kernel) c
set_option maxRecDepth 100000 in
theorem foldB_46 (c : UInt8) : (foldB c = 46) = (c = 46) := propext (forall_byte (p := fun c => foldB c = 46 ↔ c = 46) (by decide +kernel) c)
set_option maxRecDepth 100000 in
theorem foldB_64 (c : UInt8) : (foldB c = 64) = (c = 64) := propext (forall_byte (p := fun c => foldB c = 64 ↔ c = 64) (by decide +kernel) c)
set_option maxRecDepth 100000 in
theorem foldB_34 (c : UInt8) : (foldB c = 34) = (c = 34) := propext (forall_byte (p := fun c => foldB c = 34 ↔ c = 34) (by decide +kernel) c)
set_option maxRecDepth 100000 in
theorem foldB_idem (c : UInt8) : foldB (foldB c) = foldB c := forall_byte (p := fun c => foldB (foldB c) = foldB c) (by decide +kernel) c
set_option maxRecDepth 100000 in
theorem qB_fold (c : UInt8) : fold (qB c) = qB (foldB c) := forall_byte (p := fun c => fold (qB c) = qB (foldB c)) (by decide +kernel) c
set_option maxRecDepth 100000 in
theorem text_fold (c : UInt8) : text (foldB c) = text c := forall_byte (p := fun c => text (foldB c) = text c) (by decide +kernel) c
set_option maxRecDepth 100000 in
theorem atomic_not (c : UInt8) : atomic c = true → c ≠ 34 ∧ c ≠ 46 ∧ c ≠ 64 := forall_byte (p := fun c => atomic c = true → c ≠ 34 ∧ c ≠ 46 ∧ c ≠ 64) (by decide +kernel) c
set_option maxRecDepth 100000 in
theorem labelled_not (c : UInt8) : labelled c = true → c ≠ 46 ∧ c ≠ 64 := forall_byte (p := fun c => labelled c = true → c ≠ 46 ∧ c ≠ 64) (by decide +kernel) c
def plainB (c : UInt8) : Bool := decide (32 ≤ c.toNat) && decide (c.toNat ≤ 126)
set_option maxRecDepth 100000 in
theorem plain_text (c : UInt8) : plainB c = true → text c = true := forall_byte (p := fun c => plainB c = true → text c = true) (by decide +kernel) c
theorem fold_idem (l : Bytes) : fold (fold l) = fold l := by
  unfold fold
  rw [List.map_map]
  apply List.map_congr_left
  intro c _
  exact foldB_idem c
theorem fold_app (a b : Bytes) : fold (a ++ b) = fold a ++ fold b := by simp [fold]
theorem fold_cons (a : UInt8) (b : Bytes) : fold (a :: b) = foldB a :: fold b := rfl
theorem splitL_fold : ∀ l : Bytes, splitL 46 (fold l) = (splitL 46 l).map fold
  | [] => rfl
  | x :: l => by
    rw [fold_cons, splitL, splitL, splitL_fold l]
    by_cases h : x = 46
    · rw [if_pos (by rw [foldB_46]; exact h), if_pos h]; rfl
    · rw [if_neg (by rw [foldB_46]; exact h), if_neg h]
      cases splitL 46 l <;> rfl
theorem atomL_fold (w : Bytes) : atomL (fold w) = atomL w := by
  unfold atomL fold
  rw [List.all_map, show (atomic ∘ foldB) = atomic from funext atomic_fold]
  congr 1
  cases w <;> rfl
theorem dottedL_fold (l : Bytes) : dottedL (fold l) = dottedL l := by
  unfold dottedL
  rw [splitL_fold, List.all_map, show (atomL ∘ fold) = atomL from funext atomL_fold]
theorem quote_fold (l : Bytes) : fold (quote l) = quote (fold l) := by
  have h : fold (l.flatMap qB) = (fold l).flatMap qB := by
    induction l with
    | nil => rfl
    | cons c l ih => rw [List.flatMap_cons, fold_app, qB_fold, ih, fold_cons, List.flatMap_cons]
  unfold quote
  rw [fold_cons, fold_app, h]
  rfl
theorem localL_fold (l : Bytes) : fold (localL l) = localL (fold l) := by
  unfold localL
  rw [dottedL_fold]
  split
  · rfl
  · exact quote_fold l
/-- the first piece, and so the first byte -/
theorem splitL_head (c : UInt8) (x : UInt8) (l : Bytes) (h : x ≠ c) : ∃ w r, splitL c (x :: l) = (x :: w) :: r := by
  rw [splitL, if_neg h]
  split
  · exact ⟨[], [], rfl⟩
  · rename_i w r _
    exact ⟨w, r, rfl⟩
theorem dottedL_cons {l : Bytes} (h : dottedL l = true) : ∃ c r, l = c :: r ∧ atomic c = true := by
  cases l with
  | nil => simp [dottedL, splitL, atomL] at h
  | cons c r =>
    refine ⟨c, r, rfl, ?_⟩
    unfold dottedL at h
    by_cases h46 : c = 46
    · rw [splitL, if_pos h46] at h
      simp [atomL] at h
    · obtain ⟨w, q, e⟩ := splitL_head 46 c r h46
      rw [e] at h
      simp [atomL] at h
      exact h.1.1
theorem mem_splitL {c x : UInt8} : ∀ {l : Bytes}, x ∈ l → x ≠ c → ∃ w ∈ splitL c l, x ∈ w
  | [], h, _ => by cases h
  | y :: l, h, hx => by
    rw [splitL]
    by_cases e : y = c
    · rw [if_pos e]
      have hl : x ∈ l := by
        rcases List.mem_cons.1 h with q | q
        · exact absurd (q.trans e) hx
        · exact q
      obtain ⟨w, hw, hxw⟩ := mem_splitL hl hx
      exact ⟨w, List.mem_cons_of_mem _ hw, hxw⟩
    · rw [if_neg e]
      have hs := splitL_ne c l
      cases hsp : splitL c l with
      | nil => exact absurd hsp hs
      | cons w r =>
        rcases List.mem_cons.1 h with q | q
        · exact ⟨y :: w, List.mem_cons_self, by rw [q]; exact List.mem_cons_self⟩
        · obtain ⟨w', hw', hxw⟩ := mem_splitL q hx
          rw [hsp] at hw'
          rcases List.mem_cons.1 hw' with p | p
          · exact ⟨y :: w, List.mem_cons_self, by rw [← p]; exact List.mem_cons_of_mem _ hxw⟩
          · exact ⟨w', List.mem_cons_of_mem _ p, hxw⟩
theorem labelL_bytes {w : Bytes} (h : labelL w = true) {c : UInt8} (hc : c ∈ w) : labelled c = true := by
  unfold labelL at h
  rw [Bool.and_eq_true] at h
  exact List.all_eq_true.1 h.1 c hc
theorem domainL_no64 {l : Bytes} (h : domainL l = 0) : (64 : UInt8) ∉ l := by
  intro hm
  obtain ⟨w, hw, hx⟩ := mem_splitL hm (c := 46) (by decide)
  unfold domainL at h
  by_cases ha : (splitL 46 l).all labelL = true
  · exact (labelled_not 64 (labelL_bytes (List.all_eq_true.1 ha w hw) hx)).2 rfl
  · rw [if_neg ha] at h
    cases h
theorem at_split {a b x y : Bytes} (ha : (64 : UInt8) ∉ x) (hb : (64 : UInt8) ∉ y) (h : a ++ 64 :: x = b ++ 64 :: y) : a = b ∧ x = y := by
  have key : ∀ (a b : Bytes), (64 : UInt8) ∉ x → (64 : UInt8) ∉ y → a.length < b.length → a ++ 64 :: x = b ++ 64 :: y → False := by
    intro a b ha hb hl h
    have h1 : (a ++ 64 :: x).drop (a.length + 1) = (b ++ 64 :: y).drop (a.length + 1) := by rw [h]
    rw [List.drop_append, List.drop_append] at h1
    have e1 : List.drop (a.length + 1) a = [] := List.drop_of_length_le (by omega)
    rw [e1] at h1
    have e2 : a.length + 1 - a.length = 1 := by omega
    have e3 : a.length + 1 - b.length = 0 := by omega
    rw [e2, e3] at h1
    simp only [List.nil_append, List.drop_succ_cons, List.drop_zero] at h1
    exact ha (by rw [h1]; simp)
  rcases Nat.lt_trichotomy a.length b.length with hl | hl | hl
  · exact (key a b ha hb hl h).elim
  · obtain ⟨h1, h2⟩ := List.append_inj h hl
    exact ⟨h1, by simpa using h2⟩
  · exfalso
    have h' := h.symm
    have h1 : (b ++ 64 :: y).drop (b.length + 1) = (a ++ 64 :: x).drop (b.length + 1) := by rw [h']
    rw [List.drop_append, List.drop_append] at h1
    have e1 : List.drop (b.length + 1) b = [] := List.drop_of_length_le (by omega)
    rw [e1] at h1
    have e2 : b.length + 1 - b.length = 1 := by omega
    have e3 : b.length + 1 - a.length = 0 := by omega
    rw [e2, e3] at h1
    simp only [List.nil_append, List.drop_succ_cons, List.drop_zero] at h1
    exact hb (by rw [h1]; simp)
theorem qB_ne (c : UInt8) : qB c ≠ [] := by
  unfold qB
  repeat' split
  all_goals simp
theorem qB_inj : ∀ (a b : Bytes), a.all text = true → b.all text = true → a.flatMap qB = b.flatMap qB → a = b
  | [], [], _, _, _ => rfl
  | [], c :: b, _, _, h => by
    simp only [List.flatMap_nil, List.flatMap_cons] at h
    exact absurd (List.append_eq_nil_iff.1 h.symm).1 (qB_ne c)
  | c :: a, [], _, _, h => by
    simp only [List.flatMap_nil, List.flatMap_cons] at h
    exact absurd (List.append_eq_nil_iff.1 h).1 (qB_ne c)
  | c :: a, d :: b, ha, hb, h => by
    simp only [List.all_cons, Bool.and_eq_true] at ha hb
    simp only [List.flatMap_cons] at h
    have ih := fun h => qB_inj a b ha.2 hb.2 h
    unfold qB at h
    rw [if_pos ha.1, if_pos hb.1] at h
    by_cases hc : c = 34 ∨ c = 92
    · rw [if_pos hc] at h
      by_cases hd : d = 34 ∨ d = 92
      · rw [if_pos hd] at h
        simp only [List.cons_append, List.nil_append, List.cons.injEq, true_and] at h
        rw [h.1, ih h.2]
      · rw [if_neg hd] at h
        simp only [List.cons_append, List.nil_append, List.cons.injEq] at h
        exact absurd (.inr h.1.symm) hd
    · rw [if_neg hc] at h
      by_cases hd : d = 34 ∨ d = 92
      · rw [if_pos hd] at h
        simp only [List.cons_append, List.nil_append, List.cons.injEq] at h
        exact absurd (.inr h.1) hc
      · rw [if_neg hd] at h
        simp only [List.cons_append, List.nil_append, List.cons.injEq] at h
        rw [h.1, ih h.2]
theorem quote_inj {a b : Bytes} (ha : a.all text = true) (hb : b.all text = true) (h : quote a = quote b) : a = b := by
  unfold quote at h
  simp only [List.cons.injEq, true_and, List.append_cancel_right_eq] at h
  exact qB_inj a b ha hb h
theorem localL_inj {a b : Bytes} (ha : a.all text = true) (hb : b.all text = true) (h : localL a = localL b) : a = b := by
  unfold localL at h
  by_cases h1 : dottedL a = true
  · rw [if_pos h1] at h
    by_cases h2 : dottedL b = true
    · rw [if_pos h2] at h; exact h
    · rw [if_neg h2] at h
      obtain ⟨c, r, e, hc⟩ := dottedL_cons h1
      rw [e] at h
      unfold quote at h
      exact absurd (List.cons.inj h).1 (atomic_not c hc).1
  · rw [if_neg h1] at h
    by_cases h2 : dottedL b = true
    · rw [if_pos h2] at h
      obtain ⟨c, r, e, hc⟩ := dottedL_cons h2
      rw [e] at h
      unfold quote at h
      exact absurd (List.cons.inj h).1.symm (atomic_not c hc).1
    · rw [if_neg h2] at h
      exact quote_inj ha hb h

theorem glyphFold_is (s : ByteArray) (h : s.size ≤ 1000000000) : glyph_Fold.f s = some (str (fold (bs s))) := by
  unfold glyph_Fold.f
  rw [if_pos (by omega)]
  rfl

/-! plain: of all bytes -/
theorem plainFrom_bytes (s : ByteArray) : ∀ (f pos : Nat), s.size ≤ pos + f → pos ≤ s.size → plainFrom s f pos = ((bs s).drop pos).all plainB := by
  intro f
  induction f with
  | zero =>
    intro pos h1 h2
    rw [plainFrom, List.drop_of_length_le (by rw [bs_length]; omega)]
    rfl
  | succ f ih =>
    intro pos h1 h2
    rw [plainFrom]
    by_cases hp : pos < s.size
    · rw [if_pos hp]
      have hl : pos < (bs s).length := by rw [bs_length]; exact hp
      have hd : (bs s).drop pos = (bs s)[pos] :: (bs s).drop (pos + 1) := List.drop_eq_getElem_cons hl
      rw [hd, List.all_cons]
      have hg : s.get! pos = (bs s)[pos] := by
        simp [ByteArray.get!, getElem!_pos, hp, bs]
      by_cases hb : (bs s)[pos].toNat < 128
      · have hdec : Utf8.decode s pos = ((bs s)[pos].toNat, 1) := by
          rw [Lib.decode_at, hg]
          unfold Lib.decodeN
          rw [if_pos hb]
        rw [hdec]
        by_cases hpl : plainB (bs s)[pos] = true
        · rw [if_pos (by exact hpl), ih (pos + 1) (by omega) (by omega), hpl, Bool.true_and]
        · rw [if_neg (by exact hpl)]
          rw [Bool.not_eq_true] at hpl
          rw [hpl, Bool.false_and]
      · have hdec : 128 ≤ (Utf8.decode s pos).1 := by
          rw [Lib.decode_at, hg]
          unfold Lib.decodeN
          rw [if_neg hb]
          have := (bs s)[pos].toNat_lt
          repeat' split
          all_goals (first | omega | (simp only []; omega))
        rw [if_neg (by unfold plainR; simp; omega)]
        have : plainB (bs s)[pos] = false := by unfold plainB; simp; omega
        rw [this, Bool.false_and]
    · rw [if_neg hp, List.drop_of_length_le (by rw [bs_length]; omega)]
      rfl
theorem plain_L (s : ByteArray) : plain s = (bs s).all plainB := by
  unfold plain
  rw [plainFrom_bytes s s.size 0 (by omega) (by omega), List.drop_zero]
end Go.Proofs.YtlomcmdbbnbciaaDoor.Pl
set_option linter.unusedVariables false
namespace Go.Proofs.YtlomcmdbbnbciaaDoor.Pl
open Go.RowKit Go.Proofs.YtlomcmdbbnbciaaDoorW.PrintWords Go.Proofs.YtlomcmdbbnbciaaDoor.Fn
set_option maxRecDepth 100000 in
theorem works13_at : bulletinlaw13_works.f 100 = some true := by decide +kernel
theorem works13 (k : Nat) (hk : 100 ≤ k) : bulletinlaw13_works.f k = some true := mono_up bulletinlaw13_works.mono works13_at k hk
end Go.Proofs.YtlomcmdbbnbciaaDoor.Pl
set_option linter.unusedVariables false
namespace Go.Proofs.YtlomcmdbbnbciaaDoor.Pl
open Go.RowKit Go.Proofs.YtlomcmdbbnbciaaDoorW.PrintWords Go.Proofs.YtlomcmdbbnbciaaDoor.Fn

theorem right_parts {a b : ByteArray} (h : right a b = true) : domainL (bs b) = 0 ∧ bs a ≠ [] ∧ (bs a).all plainB = true ∧ fold (bs b) = bs b ∧ a.size ≤ 64 ∧ (textL (bs a) (bs b)).length ≤ 254 := by
  unfold right at h
  rw [Bool.and_eq_true, beq_iff_eq, decide_eq_true_eq] at h
  obtain ⟨h1, h2⟩ := h
  unfold why at h1
  by_cases c1 : domain b = 130 ∨ bs a = [] ∨ plain a = false
  · rw [if_pos c1] at h1; cases h1
  · rw [if_neg c1] at h1
    by_cases c2 : domain b ≠ 0 ∨ 64 < a.size ∨ 254 < (textL (bs a) (bs b)).length
    · rw [if_pos c2] at h1; cases h1
    · have c3 : domain b = 0 := by
        by_cases h : domain b = 0
        · exact h
        · exact absurd (.inl h) c2
      have c4 : plain a = true := by
        cases hp : plain a with
        | true => rfl
        | false => exact absurd (.inr (.inr hp)) c1
      refine ⟨by rw [← domain_L]; exact c3, fun h => c1 (.inr (.inl h)), by rw [← plain_L]; exact c4, h2.symm, ?_, ?_⟩
      · rcases Nat.lt_or_ge 64 a.size with q | q
        · exact absurd (.inr (.inl q)) c2
        · exact q
      · rcases Nat.lt_or_ge 254 (textL (bs a) (bs b)).length with q | q
        · exact absurd (.inr (.inr q)) c2
        · exact q
theorem all_text {l : Bytes} (h : l.all plainB = true) : (fold l).all text = true := by
  unfold fold
  rw [List.all_map, List.all_eq_true]
  intro c hc
  show text (foldB c) = true
  rw [text_fold]
  exact plain_text c (List.all_eq_true.1 h c hc)
theorem key_iff {a b x y : ByteArray} (h1 : right a b = true) (h2 : right x y = true) :
    (fold (textL (bs a) (bs b)) = fold (textL (bs x) (bs y))) ↔ (bs b = bs y ∧ fold (bs a) = fold (bs x)) := by
  obtain ⟨d1, n1, p1, f1, _⟩ := right_parts h1
  obtain ⟨d2, n2, p2, f2, _⟩ := right_parts h2
  have e : ∀ u v : Bytes, fold (textL u v) = localL (fold u) ++ 64 :: fold v := by
    intro u v
    unfold textL
    rw [fold_app, localL_fold, fold_cons]
    rfl
  rw [e, e, f1, f2]
  constructor
  · intro h
    obtain ⟨q1, q2⟩ := at_split (domainL_no64 d1) (domainL_no64 d2) h
    exact ⟨q2, localL_inj (all_text p1) (all_text p2) q1⟩
  · rintro ⟨q1, q2⟩
    rw [q1, q2]
theorem AddrKeys (a0 a1 b0 b1 : ByteArray) : ∃ k, bulletinlaw13_AddrKeys.f k a0 a1 b0 b1 = some true := by
  refine ⟨20000 + 1 + 1, ?_⟩
  generalize hk : (20000 : Nat) = k
  have hw := works13 (k + 1 + 1) (by omega)
  unfold bulletinlaw13_AddrKeys.f
  rw [hw]
  simp only [Option.bind_some, if_true]
  have yes : bulletinlaw13_AddrKeys.j0 (k + 1 + 1) true a0 a1 b0 b1 = some true := by rw [bulletinlaw13_AddrKeys.j0, if_pos rfl]
  by_cases h1 : (a0.size : Int) > 500
  · rw [if_pos h1, yes]
  rw [if_neg h1]
  by_cases h2 : (a1.size : Int) > 500
  · rw [if_pos h2, yes]
  rw [if_neg h2]
  by_cases h3 : (b0.size : Int) > 500
  · rw [if_pos h3, yes]
  rw [if_neg h3]
  by_cases h4 : (b1.size : Int) > 500
  · rw [show decide ((b1.size : Int) > 500) = true by simpa using h4, yes]
  rw [show decide ((b1.size : Int) > 500) = false by simpa using h4, bulletinlaw13_AddrKeys.j0, if_neg (by decide)]
  simp only [bulletinlaw13_To.f, Option.bind_some]
  have skip : ∀ b : Bool, b = true → bulletinlaw13_AddrKeys.j1 (k + 1) b a0 a1 b0 b1 = some true := by
    rintro b rfl
    rw [bulletinlaw13_AddrKeys.j1, if_pos rfl]
  rw [addrRight_is a0 a1 (by omega) (by omega) (k + 1) (by omega)]
  simp only [Option.bind_some]
  cases r1 : right a0 a1 with
  | false => rw [if_neg (by decide), skip _ rfl]
  | true =>
    rw [if_pos rfl, addrRight_is b0 b1 (by omega) (by omega) (k + 1) (by omega)]
    simp only [Option.bind_some]
    cases r2 : right b0 b1 with
    | false => exact skip _ rfl
    | true =>
      rw [show (!true) = false from rfl, bulletinlaw13_AddrKeys.j1, if_neg (by decide)]
      rw [addrKey_is a0 a1 (by omega) (by omega) k (by omega), addrKey_is b0 b1 (by omega) (by omega) k (by omega)]
      simp only [Option.bind_some]
      rw [toList_bs, toList_bs, toList_str, toList_str]
      rw [glyphFold_is a0 (by omega), glyphFold_is b0 (by omega)]
      simp only [Option.bind_some]
      rw [toList_str, toList_str]
      have hkey := key_iff r1 r2
      by_cases h5 : bs a1 = bs b1
      · rw [if_pos h5]
        congr 1
        rw [beq_iff_eq, Bool.eq_iff_iff, beq_iff_eq, beq_iff_eq]
        exact hkey.trans ⟨fun h => h.2, fun h => ⟨h5, h⟩⟩
      · rw [if_neg h5]
        congr 1
        rw [beq_iff_eq, beq_eq_false_iff_ne]
        exact fun h => h5 (hkey.1 h).1
end Go.Proofs.YtlomcmdbbnbciaaDoor.Pl
set_option linter.unusedVariables false
namespace Go.Proofs.YtlomcmdbbnbciaaDoor
open Go.ChangeShapes Go.WideShapes Go.ChangeAt Go.RowKit

/-! What all rows of this seat share: a world that meets the condition; the premises as the walks want them. -/
theorem own : ownKnob Tryd.prog.godebug = none := by kernel_rfl
theorem laidOut : laidOutB Tryd.prog = true := by kernel_rfl
def listed : List (String × DataW Unit) := [("unicode/utf8.acceptRanges", Rows.laid_unicode_utf8_acceptRanges), ("unicode/utf8.first", Rows.laid_unicode_utf8_first)]
noncomputable def laidWorld (os : Os) : World :=
  let w0 := World.holding Tryd.prog os ⟨#[], #[], []⟩
  let put (h : Array Obj) (g : Nat) (cs : Array Value) : Array Obj := h.modify g fun
    | .cells _ t frozen => .cells cs t frozen
    | o => o
  let h1 := put w0.heap 0 (Lib.firstTab.map fun z => Value.int .u8 z).toArray
  let h2 := put h1 1 ((List.range 16).flatMap fun i => [Value.int .u8 (Lib.accLo i), Value.int .u8 (Lib.accHi i)]).toArray
  { w0 with heap := h2 }
set_option maxRecDepth 100000 in
theorem laid_met (os : Os) (args : Array Value) : laidMetH Tryd.prog listed ((laidWorld os).forCall (fun _ _ => 0) ⟨#[], args, []⟩).memory :=
  laidMetH_of_parts (laidMet_of_run' 8 (by kernel_rfl) (by kernel_rfl)) (by kernel_rfl)

/-- The contract is handed the listed variables' condition, and the world's shape. -/
theorem lift_both {H : Type} {enc : TypeId × Value → H} {a : Assume} {C : Checked} {os : Os} {f : FuncId} {fn : Func} {s : ChangeSpec} {conds : List PathCond} {apart fresh handsOn again : Bool} {X : World → Array Value → Prop}
    (hX : ∀ (w w' : World) (args : Array Value), w.heap = w'.heap → X w args → X w' args)
    (own : ownKnob C.prog.godebug = none) (started : os.Started) (noInit : C.prog.inits.idxOf? f = none) (hfn : C.prog.funcs[f]? = some fn)
    (witness : ∃ (w : World) (tape : Tape) (i : Input), w.os = os ∧ (w.forCall tape i).Shaped C.prog ∧ i.vars = [] ∧ Input.okWide C.prog (w.forCall tape i) .any w.heap.size f i ∧
      ((s.pre enc C.prog fn conds apart (w.forCall tape i).memory i.args ∧ X (w.forCall tape i).memory i.args) ∧ sizedMet enc C.prog fn (OpenSpec.ofChange s) apart (w.forCall tape i).memory i.args) ∧ a.holds C.prog (lone (Frame.enter C.prog f i.args .normal) [] (w.forCall tape i)))
    (contract : ∀ (W : World) (base : Nat) (args : Array Value) (ds gs : List (DataW H)) (before : List MemPlace),
      (∀ (j : Nat) t v, fn.params[j]? = some t → args[j]? = some v → Value.okWide C.prog W .any base t v) →
      DataW.Whole enc C.prog fn.params.toList s.vars apart W args.toList ds gs before →
      (DataW.weightsEach C.prog (fn.params.toList ++ s.plain.varTypes C.prog) (ds ++ gs)).all (· ≤ reachBytes) = true → X W args → W.ShapedOpen C.prog →
      Calls C.prog f args W fun e W' => ∃ v, e = .returned v ∧ s.post enc C.prog fn apart fresh handsOn again W args v W') :
    ReturnsInHanded a C os f .any (fun w args => (s.pre enc C.prog fn conds apart w args ∧ X w args) ∧ sizedMet enc C.prog fn (OpenSpec.ofChange s) apart w args) (s.post enc C.prog fn apart fresh handsOn again) := by
  refine returnsInHanded_of_calls own started noInit witness ?_
  intro w tape i _ hsh _ hok hpre _
  obtain ⟨_, _, _, fn', hfn', _, _, _, _, hval⟩ := hok
  have e : fn' = fn := Option.some.inj (hfn'.symm.trans hfn)
  subst e
  obtain ⟨⟨⟨ds, gs, before, hw, _⟩, hx⟩, hz⟩ := hpre
  have hw' := DataW.Whole.of_heap (w' := w.forCall tape i) (by rfl) hw
  refine (contract (w.forCall tape i) w.heap.size i.args ds gs before hval hw' (hz.weights hw) (hX _ _ _ (by rfl) hx) hsh).mono fun e W' ⟨v, he, hp⟩ => ?_
  subst he
  exact ChangeSpec.post_blind hp
end Go.Proofs.YtlomcmdbbnbciaaDoor
-- the row of the law AddrKeys, out of its pure statement and its walk
namespace Go.Proofs.YtlomcmdbbnbciaaDoor.addrKeys
open Go.ChangeShapes Go.WideShapes Go.ChangeAt Go.RowKit Go.Joins
open Go.ChangeMaps (open_string shut_string)
set_option maxRecDepth 100000 in
theorem lifted (os : Os) (started : os.Started) (H : Type) (enc : TypeId × Value → H) :
    ReturnsInHanded {} Tryd.checked os 4 .any (fun w args => (Rows.addrKeysSpec.pre enc Tryd.prog Tryd.f4 [] false w args ∧ laidMetH Tryd.prog listed w) ∧ sizedMet enc Tryd.prog Tryd.f4 (OpenSpec.ofChange Rows.addrKeysSpec) false w args) (Rows.addrKeysSpec.post enc Tryd.prog Tryd.f4 false true false false) := by
  refine lift_both (C := Tryd.checked) (X := fun w _ => laidMetH Tryd.prog listed w) (fun _ _ _ hh h => h.of_heap hh) own started (by kernel_rfl) Tryd.func4
    (ChangeSpec.witness_at (enc := enc) (C := Tryd.checked) (os := os) (X := fun w _ => laidMetH Tryd.prog listed w) false (laidWorld os) #[.agg #[.string ByteArray.empty, .string ByteArray.empty], .agg #[.string ByteArray.empty, .string ByteArray.empty]] 8 rfl (by kernel_rfl) (by kernel_rfl) (by kernel_rfl) (by kernel_rfl) (by kernel_rfl) (laid_met os _)) ?_
  intro W base args ds gs before hval0 hW _ hL hSh
  have hval : ∀ (j : Nat) t v, Tryd.f4.params[j]? = some t → args[j]? = some v → Value.okWide Tryd.prog W .any base t v := hval0
  have hW' := hW
  obtain ⟨p, q, hA0, hV, rfl, _, _⟩ := hW
  have hA : DataW.TrodAll enc Tryd.prog W 0 (fun _ => true) true Tryd.f4.params.toList args.toList ds p := hA0
  rw [Tryd.params4] at hA hval
  obtain ⟨v0, vs0, d0, ds0, p0, q0, hargs, rfl, rfl, h0, r0⟩ := trodAll_cons hA
  obtain ⟨v1, vs1, d1, ds1, p1, q1, rfl, rfl, rfl, h1, r1⟩ := trodAll_cons r0
  obtain ⟨rfl, rfl, rfl⟩ := trodAll_nil r1
  obtain rfl : args = #[v0, v1] := by cases args; simp_all
  obtain ⟨rfl, rfl⟩ := trodVars_none hV
  have k0 := h0
  have lt0 : ∀ x ∈ p0, x.block < W.heap.size := by obtain ⟨m, hm⟩ := k0; exact DataW.trod_lt m _ _ _ hm
  obtain ⟨c0_0, c0_1, y0_0, y0_1, m0, rfl, _, _, g0_0, g0_1⟩ := open_agg2 Tryd.underlying31 (by kernel_rfl) (by kernel_rfl) (hval 0 31 v0 rfl rfl) h0
  obtain ⟨a0_0, e0_0, _, _⟩ := DataW.trod_string Tryd.underlying9 g0_0
  simp only [List.cons.injEq, and_true] at e0_0
  subst e0_0
  obtain ⟨a0_1, e0_1, _, _⟩ := DataW.trod_string Tryd.underlying9 g0_1
  simp only [List.cons.injEq, and_true] at e0_1
  subst e0_1
  have k1 := h1
  have lt1 : ∀ x ∈ p1, x.block < W.heap.size := by obtain ⟨m, hm⟩ := k1; exact DataW.trod_lt m _ _ _ hm
  obtain ⟨c1_0, c1_1, y1_0, y1_1, m1, rfl, _, _, g1_0, g1_1⟩ := open_agg2 Tryd.underlying31 (by kernel_rfl) (by kernel_rfl) (hval 1 31 v1 rfl rfl) h1
  obtain ⟨a1_0, e1_0, _, _⟩ := DataW.trod_string Tryd.underlying9 g1_0
  simp only [List.cons.injEq, and_true] at e1_0
  subst e1_0
  obtain ⟨a1_1, e1_1, _, _⟩ := DataW.trod_string Tryd.underlying9 g1_1
  simp only [List.cons.injEq, and_true] at e1_1
  subst e1_1
  obtain ⟨k, hk⟩ := Pl.AddrKeys a0_0 a0_1 a1_0 a1_1
  refine (Fn.bulletinlaw13_AddrKeys.calls k a0_0 a0_1 a1_0 a1_1 true W hk).mono ?_
  rintro e W' ⟨rfl, bel⟩
  exact ⟨_, rfl, _, _, _, [], _, [], hW', trodAll_mk1 (shut_bool Tryd.underlying4 _), (trodAll_cons_mk (Below.trod laidOut (by kernel_rfl) (of_decide_eq_true (by kernel_rfl)) k0 bel lt0) (trodAll_cons_mk (Below.trod laidOut (by kernel_rfl) (of_decide_eq_true (by kernel_rfl)) k1 bel lt1) trodAll_mk0)), rfl, bel.frame _, fun h => by cases h⟩
theorem over : Rows.addrKeysRow.holds Tryd.pinned (OpenSpec.ofChange Rows.addrKeysSpec) :=
  OpenClaim.holds_of_wide 4 Tryd.f4 rfl rfl rfl rfl rfl rfl rfl ⟨rfl, rfl, rfl, rfl, rfl⟩ rfl rfl rfl rfl rfl (by kernel_rfl) Tryd.func4 (by kernel_rfl)
    (of_decide_eq_true (by kernel_rfl)) (by unfold Func.isWrapper; first | (rw [if_pos (by decide +kernel)]; kernel_rfl) | (rw [if_neg (by decide +kernel)]; exact ⟨rfl, rfl⟩))
    (fun os started H enc _ => lifted os started H enc)
theorem proved : Rows.AddrKeysSaid := over
#print axioms proved
theorem card : Rows.AddrKeysCardSaid :=
  Claim7.holds_tied_plain_at .later [] [.data, .pinned] true (true, "a3f6bcdc9cb347ffdc7221f102fbc562a39496553b45ea8bedd4c5b8b6bf59b8") false
    proved (fun _ h => by cases h) (by kernel_rfl) (fun _ h => by cases h) addrKeys_row_tie rfl ⟨rfl, rfl⟩ (by kernel_rfl) rfl
    (fun f fn hf hfn => by
      obtain rfl : f = 4 := Option.some.inj ((show Tryd.prog.funcNamed "bulletin/bulletinlaw13.AddrKeys" = some 4 by kernel_rfl).symm.trans hf) |>.symm
      obtain rfl : fn = Tryd.f4 := (Option.some.inj (Tryd.func4.symm.trans hfn)).symm
      exact ⟨by kernel_rfl, fun j t ht => by
        rw [Tryd.params4] at ht
        have hall : ([31, 31] : List TypeId).all (fun t => !(Tryd.prog.wantsStandIn t)) = true := by kernel_rfl
        have hm : t ∈ ([31, 31] : List TypeId) := by simpa using Array.mem_of_getElem? ht
        have h2 : Tryd.prog.wantsStandIn t = false := by simpa using List.all_eq_true.1 hall t hm
        exact h2⟩)
    (by kernel_rfl)
#print axioms card
end Go.Proofs.YtlomcmdbbnbciaaDoor.addrKeys
namespace Go.Proofs.YtlomcmdbbnbciaaDoor
/-- For every input the law returns true: the tied card. -/
theorem addrKeys_holds : Rows.AddrKeysCardSaid := addrKeys.card
end Go.Proofs.YtlomcmdbbnbciaaDoor
