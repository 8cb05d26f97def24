/- The law bulletinlaw35.OrderBack returns true for every input: what is shown of any line's command is read as it, if that is not Unknown, and of an Unknown one it is what it says, in at most 30 signs, none of them capital or a blank side by side with another one; the tables of unicode/utf8 are as the program's text lays them. -/
import Derived.Test.YtlomcmdbbnbciaaDoorCOrderBack1
import Derived.Lib.DecodeN
import Derived.Lib.RuneBytes
import Derived.Test.YtlomcmdbbnbciaaDoorRows
import Derived.Test.YtlomcmdbbnbciaaDoorTie
import Derived.Test.YtlomcmdbbnbciaaDoorCards
import Derived.WalkKit
import Derived.ProofKit
import Derived.OpenShut
import Derived.ShutString
import Derived.ChangeOld
import Derived.Below
import Derived.SizedLaws
import Derived.Lib.SmallJoins
import Derived.SevenTiedAt
set_option linter.unusedVariables false
namespace Go.Proofs.YtlomcmdbbnbciaaDoor.Pl
open Go.RowKit Go.Proofs.YtlomcmdbbnbciaaDoorW.PrintWords

/-! Texts of good signs: what their signs are is read again. -/
def okR (r : Nat) : Prop := r < 55296 ∨ (57344 ≤ r ∧ r ≤ 1114111)
def er (r : Nat) : Bytes := Lib.encodeRune (r : Int)
def enc (rs : List Nat) : Bytes := rs.flatMap er
theorem get_drop {s : ByteArray} {pos : Nat} {l : Bytes} (h : (bs s).drop pos = l) (j : Nat) (hj : j < l.length) : s.get! (pos + j) = l[j] ∧ pos + j < s.size := by
  have hlen : pos + j < (bs s).length := by
    have := congrArg List.length h
    rw [List.length_drop] at this
    omega
  have h1 : l[j]? = (bs s)[pos + j]? := by rw [← h, List.getElem?_drop]
  rw [List.getElem?_eq_getElem hj, List.getElem?_eq_getElem hlen] at h1
  have h2 : pos + j < s.size := by rw [bs_length] at hlen; exact hlen
  refine ⟨?_, h2⟩
  have h3 : s.get! (pos + j) = (bs s)[pos + j] := by
    simp [ByteArray.get!, getElem!_pos, h2, bs]
  rw [h3]
  exact (Option.some.inj h1).symm
theorem u8_nat (x : Int) (h0 : 0 ≤ x) (h1 : x < 256) : (x.toNat.toUInt8).toNat = x.toNat := by
  show (UInt8.ofNat x.toNat).toNat = _
  simp
  omega
theorem er_pos (r : Nat) : 1 ≤ (er r).length := by
  have := (Lib.encodeRuneZ_length (r : Int)).1
  unfold er Lib.encodeRune
  simpa using this
theorem dec_at {s : ByteArray} {pos r : Nat} {rest : Bytes} (ok : okR r) (h : (bs s).drop pos = er r ++ rest) : Utf8.decode s pos = (r, (er r).length) := by
  have hsz : s.size - pos = (er r).length + rest.length := by
    have := congrArg List.length h
    rw [List.length_drop, bs_length, List.length_append] at this
    exact this
  rw [Lib.decode_at]
  unfold okR at ok
  by_cases c1 : r ≤ 127
  · have e : er r = [((r : Int)).toNat.toUInt8] := by unfold er Lib.encodeRune; rw [Lib.encodeRuneZ_one (by omega) (by omega)]; rfl
    rw [e] at h ⊢
    obtain ⟨g0, _⟩ := get_drop h 0 (by simp)
    have n0 : (s.get! pos).toNat = r := by
      rw [Nat.add_zero] at g0
      rw [g0]
      simp only [List.cons_append, List.getElem_cons_zero]
      rw [u8_nat _ (by omega) (by omega)]
      omega
    rw [n0]
    unfold Lib.decodeN
    rw [if_pos (by omega)]
    rfl
  · by_cases c2 : r ≤ 2047
    · have e : er r = [(192 + (r : Int) / 64).toNat.toUInt8, (128 + (r : Int) % 64).toNat.toUInt8] := by unfold er Lib.encodeRune; rw [Lib.encodeRuneZ_two (by omega) (by omega)]; rfl
      rw [e] at h hsz ⊢
      obtain ⟨g0, _⟩ := get_drop h 0 (by simp)
      obtain ⟨g1, _⟩ := get_drop h 1 (by simp)
      rw [Nat.add_zero] at g0
      simp only [List.cons_append, List.getElem_cons_zero, List.getElem_cons_succ] at g0 g1
      have n0 : (s.get! pos).toNat = 192 + r / 64 := by rw [g0, u8_nat _ (by omega) (by omega)]; omega
      have n1 : (s.get! (pos + 1)).toNat = 128 + r % 64 := by rw [g1, u8_nat _ (by omega) (by omega)]; omega
      rw [n0, n1]
      simp only [List.length_cons, List.length_nil] at hsz ⊢
      unfold Lib.decodeN
      rw [if_neg (by omega), if_pos (by omega), if_pos (by omega)]
      congr 1
      omega
    · by_cases c3 : r ≤ 65535
      · have e : er r = [(224 + (r : Int) / 4096).toNat.toUInt8, (128 + (r : Int) / 64 % 64).toNat.toUInt8, (128 + (r : Int) % 64).toNat.toUInt8] := by unfold er Lib.encodeRune; rw [Lib.encodeRuneZ_three (by omega)]; rfl
        rw [e] at h hsz ⊢
        obtain ⟨g0, _⟩ := get_drop h 0 (by simp)
        obtain ⟨g1, _⟩ := get_drop h 1 (by simp)
        obtain ⟨g2, _⟩ := get_drop h 2 (by simp)
        rw [Nat.add_zero] at g0
        simp only [List.cons_append, List.getElem_cons_zero, List.getElem_cons_succ] at g0 g1 g2
        have n0 : (s.get! pos).toNat = 224 + r / 4096 := by rw [g0, u8_nat _ (by omega) (by omega)]; omega
        have n1 : (s.get! (pos + 1)).toNat = 128 + r / 64 % 64 := by rw [g1, u8_nat _ (by omega) (by omega)]; omega
        have n2 : (s.get! (pos + 2)).toNat = 128 + r % 64 := by rw [g2, u8_nat _ (by omega) (by omega)]; omega
        rw [n0, n1, n2]
        simp only [List.length_cons, List.length_nil] at hsz ⊢
        have v : (224 + r / 4096) % 16 * 4096 + (128 + r / 64 % 64) % 64 * 64 + (128 + r % 64) % 64 = r := by omega
        unfold Lib.decodeN
        rw [if_neg (by omega), if_neg (by omega), if_pos (by omega), v, if_pos (by omega)]
      · have e : er r = [(240 + (r : Int) / 262144).toNat.toUInt8, (128 + (r : Int) / 4096 % 64).toNat.toUInt8, (128 + (r : Int) / 64 % 64).toNat.toUInt8, (128 + (r : Int) % 64).toNat.toUInt8] := by unfold er Lib.encodeRune; rw [Lib.encodeRuneZ_four (by omega) (by omega)]; rfl
        rw [e] at h hsz ⊢
        obtain ⟨g0, _⟩ := get_drop h 0 (by simp)
        obtain ⟨g1, _⟩ := get_drop h 1 (by simp)
        obtain ⟨g2, _⟩ := get_drop h 2 (by simp)
        obtain ⟨g3, _⟩ := get_drop h 3 (by simp)
        rw [Nat.add_zero] at g0
        simp only [List.cons_append, List.getElem_cons_zero, List.getElem_cons_succ] at g0 g1 g2 g3
        have n0 : (s.get! pos).toNat = 240 + r / 262144 := by rw [g0, u8_nat _ (by omega) (by omega)]; omega
        have n1 : (s.get! (pos + 1)).toNat = 128 + r / 4096 % 64 := by rw [g1, u8_nat _ (by omega) (by omega)]; omega
        have n2 : (s.get! (pos + 2)).toNat = 128 + r / 64 % 64 := by rw [g2, u8_nat _ (by omega) (by omega)]; omega
        have n3 : (s.get! (pos + 3)).toNat = 128 + r % 64 := by rw [g3, u8_nat _ (by omega) (by omega)]; omega
        rw [n0, n1, n2, n3]
        simp only [List.length_cons, List.length_nil] at hsz ⊢
        have v : (240 + r / 262144) % 8 * 262144 + (128 + r / 4096 % 64) % 64 * 4096 + (128 + r / 64 % 64) % 64 * 64 + (128 + r % 64) % 64 = r := by omega
        unfold Lib.decodeN
        rw [if_neg (by omega), if_neg (by omega), if_neg (by omega), if_pos (by omega), v, if_pos (by omega)]
end Go.Proofs.YtlomcmdbbnbciaaDoor.Pl
set_option linter.unusedVariables false
namespace Go.Proofs.YtlomcmdbbnbciaaDoor.Pl
open Go.RowKit Go.Proofs.YtlomcmdbbnbciaaDoorW.PrintWords

/-! Count, Valid, Clip of a text of good signs. -/
theorem enc_app (a b : List Nat) : enc (a ++ b) = enc a ++ enc b := by simp [enc]
theorem enc_cons (r : Nat) (b : List Nat) : enc (r :: b) = er r ++ enc b := by simp [enc]
theorem drop_enc (d rs : List Nat) : (bs (str (enc (d ++ rs)))).drop (enc d).length = enc rs := by
  rw [bs_str, enc_app, List.drop_left]
theorem dec_enc (d : List Nat) (r : Nat) (rs : List Nat) (ok : okR r) : Utf8.decode (str (enc (d ++ r :: rs))) (enc d).length = (r, (er r).length) :=
  dec_at ok (by rw [drop_enc, enc_cons])
theorem pos_enc (d : List Nat) (r : Nat) (rs : List Nat) : (enc d).length < (str (enc (d ++ r :: rs))).size := by
  have := er_pos r
  rw [str_size, enc_app, enc_cons, List.length_append, List.length_append]
  omega
theorem next_enc (d : List Nat) (r : Nat) : (enc d).length + (er r).length = (enc (d ++ [r])).length := by
  rw [enc_app, List.length_append, enc_cons]
  simp [enc]
theorem end_enc (d : List Nat) : ¬ (enc d).length < (str (enc (d ++ []))).size := by
  rw [str_size, List.append_nil]
  omega
theorem count_from : ∀ (rs d : List Nat) (f : Nat), (∀ r ∈ rs, okR r) → (enc rs).length ≤ f → countFrom (str (enc (d ++ rs))) f (enc d).length = rs.length
  | [], d, f, _, _ => by
    cases f with
    | zero => rfl
    | succ f => rw [countFrom, if_neg (end_enc d)]; rfl
  | r :: rs, d, f, ok, hf => by
    have hp := er_pos r
    rw [enc_cons, List.length_append] at hf
    obtain ⟨f, rfl⟩ : ∃ j, f = j + 1 := ⟨f - 1, by omega⟩
    have ih := count_from rs (d ++ [r]) f (fun x hx => ok x (List.mem_cons_of_mem _ hx)) (by omega)
    rw [countFrom, if_pos (pos_enc d r rs), dec_enc d r rs (ok r (by simp))]
    simp only []
    rw [next_enc, show d ++ r :: rs = (d ++ [r]) ++ rs by simp, ih]
    rfl
theorem count_enc (rs : List Nat) (ok : ∀ r ∈ rs, okR r) : count (str (enc rs)) = rs.length := by
  have := count_from rs [] (str (enc rs)).size ok (by rw [str_size]; exact Nat.le_refl _)
  simpa [count, enc] using this
theorem badAt_enc (d : List Nat) (r : Nat) (rs : List Nat) (ok : okR r) : badAt (str (enc (d ++ r :: rs))) (enc d).length = false := by
  unfold badAt
  rw [dec_enc d r rs ok]
  simp only []
  by_cases h : r = 65533
  · have : (er r).length = 3 := by rw [h]; rfl
    rw [this]
    simp
  · simp [h]
theorem valid_from : ∀ (rs d : List Nat) (f : Nat), (∀ r ∈ rs, okR r) → (enc rs).length ≤ f → validFrom (str (enc (d ++ rs))) f (enc d).length = true
  | [], d, f, _, _ => by
    cases f with
    | zero => rfl
    | succ f => rw [validFrom, if_neg (end_enc d)]
  | r :: rs, d, f, ok, hf => by
    have hp := er_pos r
    rw [enc_cons, List.length_append] at hf
    obtain ⟨f, rfl⟩ : ∃ j, f = j + 1 := ⟨f - 1, by omega⟩
    have ih := valid_from rs (d ++ [r]) f (fun x hx => ok x (List.mem_cons_of_mem _ hx)) (by omega)
    rw [validFrom, if_pos (pos_enc d r rs), badAt_enc d r rs (ok r (by simp)), if_neg (by decide), dec_enc d r rs (ok r (by simp))]
    simp only []
    rw [next_enc, show d ++ r :: rs = (d ++ [r]) ++ rs by simp, ih]
theorem valid_enc (rs : List Nat) (ok : ∀ r ∈ rs, okR r) : valid (str (enc rs)) = true := by
  have := valid_from rs [] (str (enc rs)).size ok (by rw [str_size]; exact Nat.le_refl _)
  simpa [valid, enc] using this
theorem clip_from : ∀ (rs d : List Nat) (f n : Nat), (∀ r ∈ rs, okR r) → (enc rs).length + 1 ≤ f → clipFrom (str (enc (d ++ rs))) f (n : Int) (enc d).length = (enc (d ++ rs.take n)).length
  | [], d, f, n, _, hf => by
    obtain ⟨f, rfl⟩ : ∃ j, f = j + 1 := ⟨f - 1, by omega⟩
    rw [clipFrom, if_neg (end_enc d), str_size]
    simp
  | r :: rs, d, f, n, ok, hf => by
    have hp := er_pos r
    rw [enc_cons, List.length_append] at hf
    obtain ⟨f, rfl⟩ : ∃ j, f = j + 1 := ⟨f - 1, by omega⟩
    rw [clipFrom, if_pos (pos_enc d r rs)]
    cases n with
    | zero => rw [if_pos (by omega)]; simp
    | succ n =>
      have ih := clip_from rs (d ++ [r]) f n (fun x hx => ok x (List.mem_cons_of_mem _ hx)) (by omega)
      rw [if_neg (by omega), show ((n + 1 : Nat) : Int) - 1 = (n : Int) by omega, show width (str (enc (d ++ r :: rs))) (enc d).length = (er r).length by unfold width; rw [dec_enc d r rs (ok r (by simp))], next_enc, show d ++ r :: rs = (d ++ [r]) ++ rs by simp, ih]
      simp
theorem clip_enc (rs : List Nat) (n : Nat) (ok : ∀ r ∈ rs, okR r) : clip (str (enc rs)) (n : Int) = str (enc (rs.take n)) := by
  have := clip_from rs [] ((str (enc rs)).size + 1) n ok (by rw [str_size]; exact Nat.le_refl _)
  simp only [List.nil_append] at this
  unfold clip
  rw [show (0 : Nat) = (enc []).length from rfl, this, str_extract]
  congr 1
  have e : enc rs = enc (rs.take n) ++ enc (rs.drop n) := by rw [← enc_app, List.take_append_drop]
  rw [show (enc []).length = 0 from rfl, List.drop_zero, e, List.take_left' rfl]
end Go.Proofs.YtlomcmdbbnbciaaDoor.Pl
set_option linter.unusedVariables false
set_option linter.unusedSimpArgs false
namespace Go.Proofs.YtlomcmdbbnbciaaDoor.Pl
open Go.RowKit Go.Proofs.YtlomcmdbbnbciaaDoorW.PrintWords

/-! A line's words as texts of good signs: cleaned, folded, cut, joined. -/
theorem er_low (r : Nat) (h : r < 128) : er r = [UInt8.ofNat r] := by
  unfold er Lib.encodeRune
  rw [Lib.encodeRuneZ_one (by omega) (by omega)]
  rfl
theorem er_high (r : Nat) (ok : okR r) (h : 128 ≤ r) : ∀ b ∈ er r, 128 ≤ b.toNat := by
  unfold okR at ok
  by_cases c2 : r ≤ 2047
  · have e : er r = [(192 + (r : Int) / 64).toNat.toUInt8, (128 + (r : Int) % 64).toNat.toUInt8] := by unfold er Lib.encodeRune; rw [Lib.encodeRuneZ_two (by omega) (by omega)]; rfl
    intro b hb
    rw [e] at hb
    simp only [List.mem_cons, List.not_mem_nil, or_false] at hb
    rcases hb with rfl | rfl <;> (rw [u8_nat _ (by omega) (by omega)]; omega)
  · by_cases c3 : r ≤ 65535
    · have e : er r = [(224 + (r : Int) / 4096).toNat.toUInt8, (128 + (r : Int) / 64 % 64).toNat.toUInt8, (128 + (r : Int) % 64).toNat.toUInt8] := by unfold er Lib.encodeRune; rw [Lib.encodeRuneZ_three (by omega)]; rfl
      intro b hb
      rw [e] at hb
      simp only [List.mem_cons, List.not_mem_nil, or_false] at hb
      rcases hb with rfl | rfl | rfl <;> (rw [u8_nat _ (by omega) (by omega)]; omega)
    · have e : er r = [(240 + (r : Int) / 262144).toNat.toUInt8, (128 + (r : Int) / 4096 % 64).toNat.toUInt8, (128 + (r : Int) / 64 % 64).toNat.toUInt8, (128 + (r : Int) % 64).toNat.toUInt8] := by unfold er Lib.encodeRune; rw [Lib.encodeRuneZ_four (by omega) (by omega)]; rfl
      intro b hb
      rw [e] at hb
      simp only [List.mem_cons, List.not_mem_nil, or_false] at hb
      rcases hb with rfl | rfl | rfl | rfl <;> (rw [u8_nat _ (by omega) (by omega)]; omega)
def clR (r : Nat) : Nat := if control r then 32 else r
def runesFrom (s : ByteArray) : Nat → Nat → List Nat
  | 0, _ => []
  | n + 1, i => if i < s.size then clR (sign s i) :: runesFrom s n (i + width s i) else []
theorem cleanR_er (r : Nat) : cleanR r = er (clR r) := by
  unfold cleanR clR
  by_cases h : control r = true
  · rw [if_pos h, if_pos h, er_low 32 (by decide)]; rfl
  · rw [if_neg h, if_neg h]; rfl
theorem cleanFrom_runes (s : ByteArray) : ∀ n i, cleanFrom s n i = enc (runesFrom s n i)
  | 0, _ => rfl
  | n + 1, i => by
    unfold cleanFrom runesFrom
    by_cases h : i < s.size
    · rw [if_pos h, if_pos h, enc_cons, cleanR_er, cleanFrom_runes s n]
    · rw [if_neg h, if_neg h]; rfl
theorem clR_ok (s : ByteArray) (i : Nat) : okR (clR (sign s i)) := by
  have := sign_valid s i
  unfold clR okR
  split
  · exact Or.inl (by decide)
  · exact this
theorem runesFrom_ok (s : ByteArray) : ∀ n i, ∀ r ∈ runesFrom s n i, okR r
  | 0, _ => by simp [runesFrom]
  | n + 1, i => by
    unfold runesFrom
    by_cases h : i < s.size
    · rw [if_pos h]
      intro r hr
      rcases List.mem_cons.1 hr with rfl | hr
      · exact clR_ok s i
      · exact runesFrom_ok s n _ r hr
    · rw [if_neg h]; simp
def foldR (r : Nat) : Nat := if 65 ≤ r ∧ r ≤ 90 then r + 32 else r
theorem foldR_ok {r : Nat} (h : okR r) : okR (foldR r) := by
  unfold okR foldR at *
  split <;> omega
theorem foldR_id (r : Nat) : foldR (foldR r) = foldR r := by
  unfold foldR
  by_cases h : 65 ≤ r ∧ r ≤ 90
  · rw [if_pos h, if_neg (by omega)]
  · rw [if_neg h, if_neg h]
theorem foldB_high (c : UInt8) (h : 128 ≤ c.toNat) : foldB c = c := by
  unfold foldB
  rw [if_neg (by omega)]
theorem fold_er (r : Nat) (ok : okR r) : fold (er r) = er (foldR r) := by
  rcases Nat.lt_or_ge r 128 with h | h
  · have hf : foldR r < 128 := by unfold foldR; split <;> omega
    rw [er_low r h, er_low _ hf]
    simp only [fold, List.map_cons, List.map_nil]
    congr 1
    apply UInt8.toNat_inj.1
    have e : (UInt8.ofNat r).toNat = r := by simp; omega
    have e2 : (UInt8.ofNat (foldR r)).toNat = foldR r := by simp; omega
    rw [e2]
    unfold foldB foldR
    rw [e]
    split
    · rw [UInt8.toNat_add, e]
      have : (32 : UInt8).toNat = 32 := rfl
      omega
    · exact e
  · have e : foldR r = r := by unfold foldR; rw [if_neg (by omega)]
    rw [e]
    have hh := er_high r ok h
    unfold fold
    rw [List.map_congr_left (g := id) (fun c hc => foldB_high c (hh c hc)), List.map_id]
theorem fold_enc : ∀ (rs : List Nat), (∀ r ∈ rs, okR r) → fold (enc rs) = enc (rs.map foldR)
  | [], _ => rfl
  | r :: rs, ok => by
    have ih := fold_enc rs (fun x hx => ok x (List.mem_cons_of_mem _ hx))
    rw [List.map_cons, enc_cons, enc_cons, ← ih, ← fold_er r (ok r (by simp))]
    simp [fold]
def wR (r : Nat) : Prop := okR r ∧ foldR r = r ∧ blank r = false
theorem blank_er (r : Nat) (ok : okR r) (h : blank r = false) : ∀ c ∈ er r, isBl c = false := by
  intro c hc
  rw [isBl_nat]
  rcases Nat.lt_or_ge r 128 with h1 | h1
  · rw [er_low r h1, List.mem_singleton] at hc
    subst hc
    rw [show (UInt8.ofNat r).toNat = r by simp; omega]
    exact h
  · exact blank_high _ (er_high r ok h1 c hc)
theorem splitW_skip : ∀ (x l w : Bytes), (∀ c ∈ x, isBl c = false) → splitW (x ++ l) w = splitW l (w ++ x)
  | [], l, w, _ => by simp
  | c :: x, l, w, h => by
    rw [List.cons_append, splitW, if_neg (by rw [h c (by simp)]; decide), splitW_skip x l (w ++ [c]) (fun d hd => h d (List.mem_cons_of_mem _ hd))]
    simp
theorem split_enc : ∀ (rs w : List Nat), (∀ r ∈ rs, okR r ∧ foldR r = r) → (∀ r ∈ w, wR r) → ∀ x ∈ splitW (enc rs) (enc w), ∃ rx, x = enc rx ∧ rx ≠ [] ∧ ∀ r ∈ rx, wR r
  | [], w, _, hw => by
    intro x hx
    rw [show enc [] = [] from rfl, splitW] at hx
    split at hx
    · simp at hx
    · rename_i h
      rw [List.mem_singleton] at hx
      exact ⟨w, hx, fun e => h (by rw [e]; rfl), hw⟩
  | r :: rs, w, hr, hw => by
    intro x hx
    have hr' : ∀ x ∈ rs, okR x ∧ foldR x = x := fun x hx => hr x (List.mem_cons_of_mem _ hx)
    obtain ⟨ok, hf⟩ := hr r (by simp)
    rw [enc_cons] at hx
    by_cases hb : blank r = true
    · have hlow : r < 128 := by
        rcases Nat.lt_or_ge r 128 with h | h
        · exact h
        · rw [blank_high r h] at hb; cases hb
      rw [er_low r hlow, List.singleton_append, splitW, if_pos (by rw [isBl_nat, show (UInt8.ofNat r).toNat = r by simp; omega]; exact hb)] at hx
      have ih := split_enc rs [] hr' (by simp)
      split at hx
      · exact ih x hx
      · rename_i h
        rcases List.mem_cons.1 hx with rfl | hx
        · exact ⟨w, rfl, fun e => h (by rw [e]; rfl), hw⟩
        · exact ih x hx
    · have hb' : blank r = false := by simpa using hb
      rw [splitW_skip _ _ _ (blank_er r ok hb'), show enc w ++ er r = enc (w ++ [r]) by rw [enc_app, enc_cons]; simp [enc]] at hx
      refine split_enc rs (w ++ [r]) hr' (fun y hy => ?_) x hx
      rcases List.mem_append.1 hy with hy | hy
      · exact hw y hy
      · rw [List.mem_singleton] at hy
        subst hy
        exact ⟨ok, hf, hb'⟩
def n2 : List Nat → Prop
  | a :: b :: r => ¬ (a = 32 ∧ b = 32) ∧ n2 (b :: r)
  | _ => True
theorem n2_tail {a : Nat} {r : List Nat} (h : n2 (a :: r)) : n2 r := by
  cases r with
  | nil => trivial
  | cons b r => exact h.2
theorem n2_cons {a : Nat} {r : List Nat} (h0 : a ≠ 32) (h : n2 r) : n2 (a :: r) := by
  cases r with
  | nil => trivial
  | cons b r => exact ⟨fun e => h0 e.1, h⟩
theorem n2_app : ∀ (x r : List Nat), (∀ a ∈ x, a ≠ 32) → n2 r → n2 (x ++ r)
  | [], r, _, h => h
  | a :: x, r, hx, h => n2_cons (hx a (by simp)) (n2_app x r (fun b hb => hx b (List.mem_cons_of_mem _ hb)) h)
theorem n2_take : ∀ (r : List Nat) (n : Nat), n2 r → n2 (r.take n)
  | [], n, h => by simpa using h
  | a :: r, 0, h => trivial
  | a :: r, n + 1, h => by
    rw [List.take_succ_cons]
    have ih := n2_take r n (n2_tail h)
    cases r with
    | nil => simpa using h
    | cons b r =>
      cases n with
      | zero => trivial
      | succ n =>
        rw [List.take_succ_cons] at ih ⊢
        exact ⟨h.1, ih⟩
def gR (r : Nat) : Prop := okR r ∧ foldR r = r
theorem w_ne {r : Nat} (h : wR r) : r ≠ 32 := by
  rintro rfl
  have := h.2.2
  cases this
theorem tail_enc : ∀ (l : List Bytes), (∀ x ∈ l, ∃ rx, x = enc rx ∧ rx ≠ [] ∧ ∀ r ∈ rx, wR r) → ∃ rs, Lib.joinTail [32] l = enc rs ∧ (∀ r ∈ rs, gR r) ∧ n2 rs
  | [], _ => ⟨[], rfl, by simp, trivial⟩
  | x :: l, h => by
    obtain ⟨rs, e, hg, hn⟩ := tail_enc l (fun y hy => h y (List.mem_cons_of_mem _ hy))
    obtain ⟨rx, ex, hx, hw⟩ := h x (by simp)
    have hj : Lib.joinTail [32] (x :: l) = 32 :: (x ++ Lib.joinTail [32] l) := by simp [Lib.joinTail]
    refine ⟨32 :: (rx ++ rs), ?_, ?_, ?_⟩
    · rw [hj, enc_cons, enc_app, e, ex, er_low 32 (by decide)]; rfl
    · intro r hr
      rcases List.mem_cons.1 hr with rfl | hr
      · exact ⟨Or.inl (by decide), rfl⟩
      · rcases List.mem_append.1 hr with hr | hr
        · exact ⟨(hw r hr).1, (hw r hr).2.1⟩
        · exact hg r hr
    · have h2 := n2_app rx rs (fun a ha => w_ne (hw a ha)) hn
      cases rx with
      | nil => exact absurd rfl hx
      | cons a rx => exact ⟨fun c => w_ne (hw a (by simp)) c.2, h2⟩
theorem jn_enc (l : List Bytes) (h : ∀ x ∈ l, ∃ rx, x = enc rx ∧ rx ≠ [] ∧ ∀ r ∈ rx, wR r) : ∃ rs, jn l = enc rs ∧ (∀ r ∈ rs, gR r) ∧ n2 rs := by
  cases l with
  | nil => exact ⟨[], by simp [jn, Lib.join_nil, enc], by simp, trivial⟩
  | cons x l =>
    obtain ⟨rs, e, hg, hn⟩ := tail_enc l (fun y hy => h y (List.mem_cons_of_mem _ hy))
    obtain ⟨rx, ex, hx, hw⟩ := h x (by simp)
    have ej : jn (x :: l) = x ++ Lib.joinTail [32] l := Lib.join_cons x l [32]
    refine ⟨rx ++ rs, ?_, ?_, n2_app rx rs (fun a ha => w_ne (hw a ha)) hn⟩
    · rw [ej, enc_app, e, ex]
    · intro r hr
      rcases List.mem_append.1 hr with hr | hr
      · exact ⟨(hw r hr).1, (hw r hr).2.1⟩
      · exact hg r hr
theorem lineW_enc (s : ByteArray) : ∃ rs, jn (lineW s) = enc rs ∧ (∀ r ∈ rs, gR r) ∧ n2 rs := by
  apply jn_enc
  unfold lineW clean
  rw [cleanFrom_runes, fold_enc _ (runesFrom_ok s _ _)]
  exact split_enc _ [] (fun r hr => by
    obtain ⟨q, hq, rfl⟩ := List.mem_map.1 hr
    exact ⟨foldR_ok (runesFrom_ok s _ _ q hq), foldR_id q⟩) (by simp)
def b2 : Bytes → Prop
  | a :: b :: r => ¬ (a = 32 ∧ b = 32) ∧ b2 (b :: r)
  | _ => True
theorem b2_cons {a : UInt8} {r : Bytes} (h0 : a ≠ 32) (h : b2 r) : b2 (a :: r) := by
  cases r with
  | nil => trivial
  | cons b r => exact ⟨fun e => h0 e.1, h⟩
theorem b2_app : ∀ (x r : Bytes), (∀ a ∈ x, a ≠ 32) → b2 r → b2 (x ++ r)
  | [], r, _, h => h
  | a :: x, r, hx, h => b2_cons (hx a (by simp)) (b2_app x r (fun b hb => hx b (List.mem_cons_of_mem _ hb)) h)
theorem high_ne {c : UInt8} (h : 128 ≤ c.toNat) : c ≠ 32 := by
  rintro rfl
  revert h
  decide
theorem low_32 {r : Nat} (h : r < 128) (e : UInt8.ofNat r = 32) : r = 32 := by
  have := congrArg UInt8.toNat e
  have h2 : (UInt8.ofNat r).toNat = r := by simp; omega
  rw [h2] at this
  exact this
theorem head_32 (rs : List Nat) (ok : ∀ r ∈ rs, okR r) (l : Bytes) (h : enc rs = 32 :: l) : ∃ t, rs = 32 :: t := by
  cases rs with
  | nil => cases h
  | cons r rs =>
    refine ⟨rs, ?_⟩
    congr 1
    rw [enc_cons] at h
    rcases Nat.lt_or_ge r 128 with h1 | h1
    · rw [er_low r h1] at h
      injection h with h2 _
      exact low_32 h1 h2
    · exfalso
      have hp := er_pos r
      have hh := er_high r (ok r (by simp)) h1
      cases e : er r with
      | nil => rw [e] at hp; simp at hp
      | cons c x =>
        rw [e] at h
        injection h with h2 _
        exact high_ne (hh c (by rw [e]; simp)) h2
theorem b2_enc : ∀ (rs : List Nat), (∀ r ∈ rs, okR r) → n2 rs → b2 (enc rs)
  | [], _, _ => trivial
  | r :: rs, ok, h => by
    have ok' : ∀ x ∈ rs, okR x := fun x hx => ok x (List.mem_cons_of_mem _ hx)
    have ih := b2_enc rs ok' (n2_tail h)
    rw [enc_cons]
    rcases Nat.lt_or_ge r 128 with h1 | h1
    · rw [er_low r h1, List.singleton_append]
      by_cases h2 : r = 32
      · subst h2
        cases e : enc rs with
        | nil => trivial
        | cons c l =>
          rw [e] at ih
          refine ⟨fun hc => ?_, ih⟩
          obtain ⟨t, rfl⟩ := head_32 rs ok' l (by rw [e, hc.2])
          exact h.1 ⟨rfl, rfl⟩
      · exact b2_cons (fun e => h2 (low_32 h1 e)) ih
    · exact b2_app _ _ (fun a ha => high_ne (er_high r (ok r (by simp)) h1 a ha)) ih
theorem unk_text (s : ByteArray) : ∃ rs, clip (str (jn (lineW s))) 30 = str (enc rs) ∧ rs.length ≤ 30 ∧ fold (enc rs) = enc rs ∧ count (str (enc rs)) = rs.length ∧ valid (str (enc rs)) = true ∧ b2 (enc rs) := by
  obtain ⟨rs, e, hg, hn⟩ := lineW_enc s
  have ok : ∀ r ∈ rs, okR r := fun r hr => (hg r hr).1
  have ok' : ∀ r ∈ rs.take 30, okR r := fun r hr => ok r (List.mem_of_mem_take hr)
  refine ⟨rs.take 30, ?_, ?_, ?_, count_enc _ ok', valid_enc _ ok', b2_enc _ ok' (n2_take rs 30 hn)⟩
  · rw [e]
    exact clip_enc rs 30 ok
  · rw [List.length_take]; omega
  · rw [fold_enc _ ok', List.map_congr_left (g := id) (fun c hc => (hg c (List.mem_of_mem_take hc)).2), List.map_id]
end Go.Proofs.YtlomcmdbbnbciaaDoor.Pl
set_option linter.unusedVariables false
set_option linter.unusedSimpArgs false
namespace Go.Proofs.YtlomcmdbbnbciaaDoor.Pl
open Go.RowKit Go.Proofs.YtlomcmdbbnbciaaDoorW.PrintWords Go.Proofs.YtlomcmdbbnbciaaDoor.Fn

theorem enc_len : ∀ (rs : List Nat), (enc rs).length ≤ 4 * rs.length
  | [] => by simp [enc]
  | r :: rs => by
    have ih := enc_len rs
    have h : (er r).length ≤ 4 := enc_length r
    rw [enc_cons, List.length_append, List.length_cons]
    omega
theorem back_end (rs : List Nat) (h30 : rs.length ≤ 30) (hf : fold (enc rs) = enc rs) (hc : count (str (enc rs)) = rs.length) (hv : valid (str (enc rs)) = true) :
    (if (str (enc rs)).toList = (str (enc rs)).toList then (if (0 : Int) = 0 then ((glyph_Count.f (str (enc rs))).bind fun t204 => (if t204 ≤ 30 then ((glyph_Fold.f (str (enc rs))).bind fun t205 => (if t205.toList = (str (enc rs)).toList then ((glyph_Valid.f (str (enc rs))).bind fun t206 => (some t206)) else (some false))) else (some false))) else (some false)) else (some false)) = some true := by
  have hl := enc_len rs
  have hz : (str (enc rs)).size ≤ 35184372088832 := by rw [str_size]; omega
  have hk : ((rs.length : Nat) : Int) ≤ 30 := by omega
  rw [if_pos rfl, if_pos rfl]
  unfold glyph_Count.f glyph_Fold.f glyph_Valid.f
  rw [if_pos hz, if_pos hz, if_pos hz, Option.bind_some, hc, if_pos hk, Option.bind_some, str_data, hf, if_pos rfl, Option.bind_some, hv]
theorem back_loop (rs : List Nat) (h30 : rs.length ≤ 30) (hf : fold (enc rs) = enc rs) (hc : count (str (enc rs)) = rs.length) (hv : valid (str (enc rs)) = true) :
    ∀ (l : Bytes) (i k : Nat), (bs (str (enc rs))).drop i = l → i ≤ (enc rs).length → b2 l → l.length < k → bulletinlaw35_OrderBack.l0 k (str (enc rs)) (i : Int) 5 0 (str (enc rs)) = some true := by
  intro l
  have hl := enc_len rs
  have hz : (str (enc rs)).size = (enc rs).length := str_size _
  induction l with
  | nil =>
    intro i k h hi hb hk
    obtain ⟨k, rfl⟩ : ∃ m, k = m + 1 := ⟨k - 1, by omega⟩
    have h1 := drop_nil h
    rw [bs_length] at h1
    rw [bulletinlaw35_OrderBack.l0, wrap_succ i (by omega), if_neg (by omega)]
    exact back_end rs h30 hf hc hv
  | cons c r ih =>
    intro i k h hi hb hk
    obtain ⟨k, rfl⟩ : ∃ m, k = m + 1 := ⟨k - 1, by omega⟩
    obtain ⟨h1, h2, h3, h4⟩ := drop_cons h
    rw [bs_length] at h1
    cases r with
    | nil =>
      have h5 := drop_nil h3
      rw [bs_length] at h5
      rw [bulletinlaw35_OrderBack.l0, wrap_succ i (by omega), if_neg (by omega)]
      exact back_end rs h30 hf hc hv
    | cons d r =>
      obtain ⟨g1, g2, g3, g4⟩ := drop_cons h3
      rw [bs_length] at g1
      have hn := ih (i + 1) k h3 (by omega) hb.2 (by simp only [List.length_cons] at hk ⊢; omega)
      rw [bulletinlaw35_OrderBack.l0, wrap_succ i (by omega), if_pos (by omega), if_pos (by omega), if_pos (by omega), bt_drop h, bt_drop h3]
      by_cases a : (c.toNat : Int) = 32
      · rw [if_pos a, if_pos (by omega)]
        by_cases b : (d.toNat : Int) = 32
        · exfalso
          refine hb.1 ⟨UInt8.toNat_inj.1 ?_, UInt8.toNat_inj.1 ?_⟩
          · show c.toNat = 32; omega
          · show d.toNat = 32; omega
        · rw [if_neg b]; exact hn
      · rw [if_neg a]; exact hn
theorem wordN_cases (b : Bytes) : wordN b = 0 ∨ wordN b = 1 ∨ wordN b = 2 ∨ wordN b = 3 := by
  unfold wordN
  repeat' split
  all_goals omega
def known (o m : Int) : Prop := (o = 1 ∧ m = 0) ∨ (o = 3 ∧ m = 0) ∨ ((o = 2 ∨ o = 4) ∧ (m = 1 ∨ m = 2 ∨ m = 3))
theorem jn_one (a : Bytes) : jn [a] = a := Lib.join_one a [32]
theorem cmd_cases (l : List Bytes) : cmd l = unk (jn l) ∨ ∃ o m, cmd l = (o, m, str []) ∧ known o m := by
  match l with
  | [] => exact Or.inl rfl
  | [a] =>
    simp only [cmd]
    split
    · exact Or.inr ⟨1, 0, rfl, Or.inl ⟨rfl, rfl⟩⟩
    split
    · exact Or.inr ⟨2, 1, rfl, Or.inr (Or.inr ⟨Or.inl rfl, Or.inl rfl⟩)⟩
    split
    · exact Or.inr ⟨3, 0, rfl, Or.inr (Or.inl ⟨rfl, rfl⟩)⟩
    · left; rw [jn_one]
  | [a, b] =>
    simp only [cmd]
    split
    · rename_i h
      refine Or.inr ⟨2, wordN b, rfl, Or.inr (Or.inr ⟨Or.inl rfl, ?_⟩)⟩
      rcases wordN_cases b with e | e
      · exact absurd e h.2
      · exact e
    split
    · rename_i h
      refine Or.inr ⟨4, wordN b, rfl, Or.inr (Or.inr ⟨Or.inr rfl, ?_⟩)⟩
      rcases wordN_cases b with e | e
      · exact absurd e h.2
      · exact e
    · left; rfl
  | a :: b :: c :: r => exact Or.inl rfl
set_option maxRecDepth 100000 in
theorem known_back (k : Nat) (hk : 1 < k) (o m : Int) (h : known o m) : ∃ t : Bytes, order_Show.f k o m (str []) = some (str t) ∧ t.length ≤ 100 ∧ cmd (lineW (str t)) = (o, m, str []) := by
  rcases h with ⟨rfl, rfl⟩ | ⟨rfl, rfl⟩ | ⟨rfl | rfl, rfl | rfl | rfl⟩
  · obtain ⟨b, hb, hl⟩ := word_some 0
    exact ⟨[104, 101, 108, 112], show_is 1 0 _ b hb hl k hk, by decide, by decide +kernel⟩
  · obtain ⟨b, hb, hl⟩ := word_some 0
    exact ⟨[108, 101, 97, 118, 101], show_is 3 0 _ b hb hl k hk, by decide, by decide +kernel⟩
  · exact ⟨[106, 111, 105, 110, 32, 101, 97, 99, 104], show_is 2 1 _ _ rw1 (by decide) k hk, by decide, by decide +kernel⟩
  · exact ⟨[106, 111, 105, 110, 32, 100, 105, 103, 101, 115, 116], show_is 2 2 _ _ rw2 (by decide) k hk, by decide, by decide +kernel⟩
  · exact ⟨[106, 111, 105, 110, 32, 115, 105, 108, 101, 110, 116], show_is 2 3 _ _ rw3 (by decide) k hk, by decide, by decide +kernel⟩
  · exact ⟨[115, 101, 116, 32, 101, 97, 99, 104], show_is 4 1 _ _ rw1 (by decide) k hk, by decide, by decide +kernel⟩
  · exact ⟨[115, 101, 116, 32, 100, 105, 103, 101, 115, 116], show_is 4 2 _ _ rw2 (by decide) k hk, by decide, by decide +kernel⟩
  · exact ⟨[115, 101, 116, 32, 115, 105, 108, 101, 110, 116], show_is 4 3 _ _ rw3 (by decide) k hk, by decide, by decide +kernel⟩
theorem OrderBack (s : ByteArray) : ∃ k, bulletinlaw35_OrderBack.f k s = some true := by
  refine ⟨1000000, ?_⟩
  generalize hk : (1000000 : Nat) = k
  unfold bulletinlaw35_OrderBack.f
  rw [works_is k (by omega), Option.bind_some, if_pos rfl]
  by_cases h1 : (s.size : Int) > 500
  · rw [if_pos h1]
  rw [if_neg h1, line_is s (by omega) k (by omega), Option.bind_some]
  rcases cmd_cases (lineW s) with h | ⟨o, m, h, hkn⟩
  · obtain ⟨rs, e, h30, hf, hc, hv, hb⟩ := unk_text s
    have hl := enc_len rs
    obtain ⟨b, hbw, hbl⟩ := word_some 0
    have hu : cmd (lineW s) = (5, 0, str (enc rs)) := by rw [h, ← e]; rfl
    rw [hu]
    simp only []
    rw [show_is 5 0 (str (enc rs)) b hbw hbl k (by omega), Option.bind_some, if_pos trivial]
    show bulletinlaw35_OrderBack.l0 k (str (enc rs)) 0 5 0 (str (enc rs)) = some true
    exact back_loop rs h30 hf hc hv (enc rs) 0 k (by rw [bs_str, List.drop_zero]) (by omega) hb (by omega)
  · obtain ⟨t, e1, e2, e3⟩ := known_back k (by omega) o m hkn
    have ho : ¬ o = 5 := by
      rcases hkn with ⟨rfl, _⟩ | ⟨rfl, _⟩ | ⟨rfl | rfl, _⟩ <;> decide
    rw [h]
    simp only []
    rw [e1, Option.bind_some, if_neg ho, line_is (str t) (by rw [str_size]; omega) k (by omega), Option.bind_some, e3]
    simp only []
    rw [if_pos (by simp), toList_str]
    rfl
end Go.Proofs.YtlomcmdbbnbciaaDoor.Pl
-- the row of the law OrderBack, out of its pure statement and its walk
namespace Go.Proofs.YtlomcmdbbnbciaaDoor.orderBack
open Go.ChangeShapes Go.WideShapes Go.ChangeAt Go.RowKit Go.Joins
open Go.ChangeMaps (open_string shut_string)
set_option maxRecDepth 100000 in
theorem lifted (os : Os) (started : os.Started) (H : Type) (enc : TypeId × Value → H) :
    ReturnsInHanded {} Tryd.checked os 3 .any (fun w args => (Rows.orderBackSpec.pre enc Tryd.prog Tryd.f3 [] false w args ∧ laidMetH Tryd.prog listed w) ∧ sizedMet enc Tryd.prog Tryd.f3 (OpenSpec.ofChange Rows.orderBackSpec) false w args) (Rows.orderBackSpec.post enc Tryd.prog Tryd.f3 false true false false) := by
  refine lift_both (C := Tryd.checked) (X := fun w _ => laidMetH Tryd.prog listed w) (fun _ _ _ hh h => h.of_heap hh) own started (by kernel_rfl) Tryd.func3
    (ChangeSpec.witness_at (enc := enc) (C := Tryd.checked) (os := os) (X := fun w _ => laidMetH Tryd.prog listed w) false (laidWorld os) #[.string ByteArray.empty] 8 rfl (by kernel_rfl) (by kernel_rfl) (by kernel_rfl) (by kernel_rfl) (by kernel_rfl) (laid_met os _)) ?_
  intro W base args ds gs before hval0 hW _ hL hSh
  have hG : Fn.Glob W := Fn.glob_of hL hSh
  have hval : ∀ (j : Nat) t v, Tryd.f3.params[j]? = some t → args[j]? = some v → Value.okWide Tryd.prog W .any base t v := hval0
  have hW' := hW
  obtain ⟨p, q, hA0, hV, rfl, _, _⟩ := hW
  have hA : DataW.TrodAll enc Tryd.prog W 0 (fun _ => true) true Tryd.f3.params.toList args.toList ds p := hA0
  rw [Tryd.params3] at hA hval
  obtain ⟨v0, vs0, d0, ds0, p0, q0, hargs, rfl, rfl, h0, r0⟩ := trodAll_cons hA
  obtain ⟨rfl, rfl, rfl⟩ := trodAll_nil r0
  obtain rfl : args = #[v0] := by cases args; simp_all
  obtain ⟨rfl, rfl⟩ := trodVars_none hV
  have k0 := h0
  have lt0 : ∀ x ∈ p0, x.block < W.heap.size := by obtain ⟨m, hm⟩ := k0; exact DataW.trod_lt m _ _ _ hm
  obtain ⟨a0, rfl, _, _, _⟩ := open_string Tryd.underlying9 (hval 0 9 v0 rfl rfl) h0
  obtain ⟨k, hk⟩ := Pl.OrderBack a0
  refine (Fn.bulletinlaw35_OrderBack.calls k a0 true W hG hk).mono ?_
  rintro e W' ⟨rfl, bel⟩
  exact ⟨_, rfl, _, _, _, [], _, [], hW', trodAll_mk1 (shut_bool Tryd.underlying4 _), (trodAll_cons_mk (Below.trod laidOut (by kernel_rfl) (of_decide_eq_true (by kernel_rfl)) k0 bel lt0) trodAll_mk0), rfl, bel.frame _, fun h => by cases h⟩
theorem over : Rows.orderBackRow.holds Tryd.pinned (OpenSpec.ofChange Rows.orderBackSpec) :=
  OpenClaim.holds_of_wide 3 Tryd.f3 rfl rfl rfl rfl rfl rfl rfl ⟨rfl, rfl, rfl, rfl, rfl⟩ rfl rfl rfl rfl rfl (by kernel_rfl) Tryd.func3 (by kernel_rfl)
    (of_decide_eq_true (by kernel_rfl)) (by unfold Func.isWrapper; first | (rw [if_pos (by decide +kernel)]; kernel_rfl) | (rw [if_neg (by decide +kernel)]; exact ⟨rfl, rfl⟩))
    (fun os started H enc _ => lifted os started H enc)
theorem proved : Rows.OrderBackSaid := over
#print axioms proved
theorem card : Rows.OrderBackCardSaid :=
  Claim7.holds_tied_plain_at .later [] [.data, .pinned] true (true, "a3f6bcdc9cb347ffdc7221f102fbc562a39496553b45ea8bedd4c5b8b6bf59b8") false
    proved (fun _ h => by cases h) (by kernel_rfl) (fun _ h => by cases h) orderBack_row_tie rfl ⟨rfl, rfl⟩ (by kernel_rfl) rfl
    (fun f fn hf hfn => by
      obtain rfl : f = 3 := Option.some.inj ((show Tryd.prog.funcNamed "bulletin/bulletinlaw35.OrderBack" = some 3 by kernel_rfl).symm.trans hf) |>.symm
      obtain rfl : fn = Tryd.f3 := (Option.some.inj (Tryd.func3.symm.trans hfn)).symm
      exact ⟨by kernel_rfl, fun j t ht => by
        rw [Tryd.params3] at ht
        have hall : ([9] : List TypeId).all (fun t => !(Tryd.prog.wantsStandIn t)) = true := by kernel_rfl
        have hm : t ∈ ([9] : List TypeId) := by simpa using Array.mem_of_getElem? ht
        have h2 : Tryd.prog.wantsStandIn t = false := by simpa using List.all_eq_true.1 hall t hm
        exact h2⟩)
    (by kernel_rfl)
#print axioms card
end Go.Proofs.YtlomcmdbbnbciaaDoor.orderBack
namespace Go.Proofs.YtlomcmdbbnbciaaDoor
theorem orderBack_holds : Rows.OrderBackCardSaid := orderBack.card
end Go.Proofs.YtlomcmdbbnbciaaDoor
