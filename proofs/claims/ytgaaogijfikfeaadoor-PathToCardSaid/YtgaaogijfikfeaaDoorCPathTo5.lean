/- A part of the proof of this sentence: The law bulletinlaw28.PathTo returns true for every input: whom any argument says that a mail goes to is right, and it is who it says that one comes from, but for postmaster; the tables of unicode/utf8 are as the program's text lays them. -/
import Derived.Test.YtgaaogijfikfeaaDoorCPathTo4
set_option linter.unusedVariables false
namespace Go.Proofs.YtgaaogijfikfeaaDoor.Pl
open Go.RowKit Go.Proofs.YtgaaogijfikfeaaDoorW.PrintWords Go.Proofs.YtgaaogijfikfeaaDoor.Fn

set_option maxRecDepth 100000 in
theorem atomic_lower (c : UInt8) : c ∈ postL → ∀ d, foldB d = c → atomic d = true := by
  have h : ∀ d : UInt8, foldB d ∈ postL → atomic d = true := fun d => forall_byte (p := fun d => foldB d ∈ postL → atomic d = true) (by decide +kernel) d
  intro hc d hd
  exact h d (by rw [hd]; exact hc)
theorem strict_post {i : ByteArray} (h : fold (bs i) = postL) : strictL i = noAddr := by
  have hall : (bs i).all atomic = true := by
    rw [List.all_eq_true]
    intro d hd
    have hm : foldB d ∈ fold (bs i) := List.mem_map_of_mem hd
    rw [h] at hm
    exact atomic_lower _ hm d rfl
  have hne : bs i ≠ [] := by
    intro e
    rw [e] at h
    cases h
  have ha : atomL (bs i) = true := by
    unfold atomL
    rw [hall]
    cases hb : bs i with
    | nil => exact absurd hb hne
    | cons c r => rfl
  have hs := scan_word [] (bs i) [] ha stops_nil
  rw [List.append_nil, scanL_nil] at hs
  have hp : parseL i = noAddr := by
    unfold parseL
    rw [hs]
    rfl
  unfold strictL
  rw [hp]
  rfl
theorem right_post {b : ByteArray} (hd : domain b = 0) (hf : fold (bs b) = bs b) (hz : b.size ≤ 200) : right (str postL) b = true := by
  have hpl : plain (str postL) = true := by decide +kernel
  have hlen : (textL postL (bs b)).length = b.size + 11 := by
    unfold textL localL
    rw [if_pos (by decide +kernel), List.length_append, List.length_cons, bs_length]
    show 10 + (b.size + 1) = _
    omega
  unfold right why
  rw [hpl, bs_str, hd, if_neg (by rintro (h | h | h) <;> cases h), if_neg (by
    rintro (h | h | h)
    · exact h rfl
    · have : (str postL).size = 10 := rfl
      omega
    · rw [hlen] at h; omega), hf]
  simp
theorem From_of (s : ByteArray) (hs : s.size ≤ 50000) (k : Nat) (hk : 1000000 ≤ k) {i a b : ByteArray} (h : split s = (i, [], 0, 0)) (hi : bs i ≠ []) (hz : i.size ≤ 50000) (h2 : strictL i = (a, b, 0)) : path_From.f k s = some (a, b, false, 0, 0) := by
  have hne : (i.toList == ([] : List UInt8)) = false := by rw [toList_bs, beq_eq_false_iff_ne]; exact hi
  unfold path_From.f
  rw [pathsplit_is s (by omega), Option.bind_some, h]
  simp only []
  rw [if_pos trivial, if_neg (by rw [toList_bs]; exact hi), addrStrict_is i (by omega) k hk, Option.bind_some, h2]
  simp only []
  rw [if_pos trivial, if_pos trivial, options_none k (by omega), Option.bind_some, hne]
theorem path_to (a0 a1 : ByteArray) (h1 : a0.size ≤ 1000) (h2 : a1.size ≤ 200) (hd : domain a1 = 0) (hf : fold (bs a1) = bs a1) (k : Nat) (hk : 1000000 ≤ k) : ∃ (a b : ByteArray) (e : Int), path_To.f (k + 1) a0 a1 = some (a, b, e) ∧ (e ≠ 0 → a = ⟨#[]⟩ ∧ b = ⟨#[]⟩) ∧
    (e = 0 → right a b = true ∧ a.size ≤ 1000 ∧ b.size ≤ 1000 ∧ (path_From.f (k + 1) a0 = some (a, b, false, 0, 0) ∨ (a = str postL ∧ b = a1 ∧ path_From.f (k + 1) a0 = some (⟨#[]⟩, ⟨#[]⟩, false, 0, 130)))) := by
  have hz := split_size a0
  obtain ⟨⟨i, ps, c, bh⟩, hsp⟩ : ∃ q, split a0 = q := ⟨_, rfl⟩
  rw [hsp] at hz
  simp only [] at hz
  have hto : path_To.f (k + 1) a0 a1 = (if c = 0 then (if fold (bs i) = postL then path_To.j0 (k + 1) ps c bh (str postL) a1 else path_To.j0 (k + 1) ps (strictL i).2.2 bh (strictL i).1 (strictL i).2.1) else some (⟨#[]⟩, ⟨#[]⟩, c)) := by
    unfold path_To.f
    rw [pathsplit_is a0 (by omega), Option.bind_some, hsp]
    simp only []
    by_cases hc : c = 0
    · rw [if_pos hc, if_pos hc, glyphFold_is i (by omega), Option.bind_some, toList_str, addrStrict_is i (by omega) (k + 1) (by omega), Option.bind_some]
      rfl
    · rw [if_neg hc, if_neg hc]
  rw [hto]
  clear hto
  have no : ∀ e : Int, e ≠ 0 → ∃ (a b : ByteArray) (e' : Int), some ((⟨#[]⟩ : ByteArray), (⟨#[]⟩ : ByteArray), e) = some (a, b, e') ∧ (e' ≠ 0 → a = ⟨#[]⟩ ∧ b = ⟨#[]⟩) ∧
    (e' = 0 → right a b = true ∧ a.size ≤ 1000 ∧ b.size ≤ 1000 ∧ (path_From.f (k + 1) a0 = some (a, b, false, 0, 0) ∨ (a = str postL ∧ b = a1 ∧ path_From.f (k + 1) a0 = some (⟨#[]⟩, ⟨#[]⟩, false, 0, 130)))) :=
    fun e he => ⟨_, _, e, rfl, fun _ => ⟨rfl, rfl⟩, fun h => absurd h he⟩
  by_cases hc : c = 0
  case neg =>
    rw [if_neg hc]
    exact no c hc
  subst hc
  rw [if_pos rfl]
  have hj : ∀ (e : Int) (a b : ByteArray), path_To.j0 (k + 1) ps e bh a b = (if e = 0 then (if bh = 0 then (if ps = [] then some (a, b, 0) else some (⟨#[]⟩, ⟨#[]⟩, 1)) else some (⟨#[]⟩, ⟨#[]⟩, bh)) else some (⟨#[]⟩, ⟨#[]⟩, e)) := by
    intro e a b
    rw [path_To.j0]
    cases ps with
    | nil => simp
    | cons p ps => simp
  rw [hj, hj]
  by_cases hb : bh = 0
  case neg =>
    have e1 : ∀ (x y : Option (ByteArray × ByteArray × Int)) , (if bh = 0 then x else y) = y := fun x y => if_neg hb
    rw [e1, e1]
    split
    · rw [if_pos rfl]; exact no bh hb
    · split
      · exact no bh hb
      · rename_i he; exact no _ he
  subst hb
  simp only [if_true]
  by_cases hp : ps = []
  case neg =>
    rw [if_neg hp]
    split
    · exact no 1 (by decide)
    · split
      · exact no 1 (by decide)
      · rename_i he; exact no _ he
  subst hp
  simp only [if_true]
  by_cases hpost : fold (bs i) = postL
  · have hne : bs i ≠ [] := fun e => by rw [e] at hpost; cases hpost
    have hst := strict_post hpost
    have hfrom : path_From.f (k + 1) a0 = some (⟨#[]⟩, ⟨#[]⟩, false, 0, 130) := by
      unfold path_From.f
      rw [pathsplit_is a0 (by omega), Option.bind_some, hsp]
      simp only []
      rw [if_pos trivial, if_neg (by rw [toList_bs]; exact hne), addrStrict_is i (by omega) (k + 1) (by omega), Option.bind_some, hst]
      rfl
    rw [if_pos hpost]
    exact ⟨_, _, _, rfl, fun h => absurd rfl h, fun _ => ⟨right_post hd hf h2, by decide, by omega, .inr ⟨rfl, rfl, hfrom⟩⟩⟩
  · rw [if_neg hpost]
    by_cases he : (strictL i).2.2 = 0
    case neg => rw [if_neg he]; exact no _ he
    have hne : bs i ≠ [] := by
      intro e
      rw [show i = str [] from by rw [← str_bs i, e]] at he
      exact absurd he (by decide +kernel)
    have hps : strictL i = parseL i := by
      unfold strictL at he ⊢
      by_cases h0 : (parseL i).2.2 = 0
      · rw [if_pos h0] at he ⊢
        by_cases h3 : fold (bs i) = fold (textL (bs (parseL i).1) (bs (parseL i).2.1))
        · rw [if_pos h3]
        · rw [if_neg h3] at he
          simp [noAddr] at he
      · rw [if_neg h0]
    have hsz := parseL_size i
    have hr : right (strictL i).1 (strictL i).2.1 = true := by rw [hps] at he ⊢; exact parse_right he
    rw [← hps] at hsz
    have hfrom := From_of a0 (by omega) (k + 1) (by omega) (a := (strictL i).1) (b := (strictL i).2.1) hsp hne (by omega) (by rw [← he])
    rw [if_pos he]
    exact ⟨_, _, _, rfl, fun h => absurd rfl h, fun _ => ⟨hr, by omega, by omega, .inl hfrom⟩⟩
theorem PathTo (a0 a1 : ByteArray) (hz1 : a1.size ≤ 140737488355328) : ∃ k, bulletinlaw28_PathTo.f k a0 a1 = some true := by
  refine ⟨1000000 + 1 + 1, ?_⟩
  generalize hk : (1000000 : Nat) = k
  have hw := works28 (k + 1 + 1) (by omega)
  unfold bulletinlaw28_PathTo.f
  have yes : bulletinlaw28_PathTo.j0 (k + 1 + 1) a0 a1 true = some true := by rw [bulletinlaw28_PathTo.j0, if_pos rfl]
  rw [hw, Option.bind_some, if_pos rfl]
  rw [domainF_all a1 hz1, Option.bind_some]
  by_cases h1 : (a0.size : Int) > 1000
  · rw [if_pos h1, yes]
  rw [if_neg h1]
  by_cases h2 : (a1.size : Int) > 200
  · rw [if_pos h2, yes]
  rw [if_neg h2]
  simp only []
  by_cases hd : domain a1 = 0
  case neg => rw [if_neg hd, yes]
  rw [if_pos hd, if_pos hd, toList_str, toList_bs]
  by_cases hf : fold (bs a1) = bs a1
  case neg => rw [show (fold (bs a1) != bs a1) = true by simpa using hf, yes]
  rw [show (fold (bs a1) != bs a1) = false by simpa using hf, bulletinlaw28_PathTo.j0, if_neg (by decide)]
  obtain ⟨a, b, e, ht, hn, hy⟩ := path_to a0 a1 (by omega) (by omega) hd hf k (by omega)
  rw [ht, Option.bind_some]
  simp only []
  by_cases he : e = 0
  case neg =>
    obtain ⟨rfl, rfl⟩ := hn he
    rw [if_neg he, toList_bs]
    rfl
  obtain ⟨hr, s1, s2, hc⟩ := hy he
  rw [if_pos he]
  rcases hc with hc | ⟨rfl, rfl, hc⟩
  · rw [hc, Option.bind_some, addrRight_is _ _ (by omega) (by omega) (k + 1) (by omega), Option.bind_some, hr]
    simp
  · rw [hc, Option.bind_some, addrRight_is _ _ (by omega) (by omega) (k + 1) (by omega), Option.bind_some, hr, if_pos rfl]
    simp only []
    rw [if_neg (by decide), if_pos trivial, if_pos (by rw [toList_str]; rfl)]
    simp
end Go.Proofs.YtgaaogijfikfeaaDoor.Pl
