/- A part of the proof of this sentence: the tables of unicode/utf8 are as the program's text lays them. -/
import Derived.Test.YtgaaogijfikfeaaDoorCMimeTypeBack5
import Derived.Deep.QuietTactic
import Derived.BigQuiet
import Derived.Shelf.Strings.IndexAnyAll
import Derived.Shelf.Strings.SlTrimAscii
import Derived.Deep.SlicePairs
import Derived.ProofKit
import Derived.OpenShut
set_option linter.unusedVariables false
set_option linter.unusedSimpArgs false
namespace Go.Proofs.YtgaaogijfikfeaaDoor.Pl
open Go.RowKit Go.Proofs.YtgaaogijfikfeaaDoorW.PrintWords Go.Proofs.YtgaaogijfikfeaaDoor.Fn

/-! Layer 20: a type's text is read again. -/
set_option maxRecDepth 100000 in
theorem atomic_text (c : UInt8) : atomic c = true → text c = true := forall_byte (p := fun c => atomic c = true → text c = true) (by decide +kernel) c
set_option maxRecDepth 100000 in
theorem sign_text (c : UInt8) : signB c = true → text c = true := forall_byte (p := fun c => signB c = true → text c = true) (by decide +kernel) c
theorem text_13 : text 13 = false := by decide +kernel
def allT (l : List Tok) : Prop := ∀ t ∈ l, t.2.all text = true
theorem allT_add {l : List Tok} {t : Tok} (h : allT l) (ht : t.2.all text = true) : allT (l ++ [t]) := by
  intro x hx
  rcases List.mem_append.1 hx with h1 | h1
  · exact h x h1
  · rw [List.mem_singleton.1 h1]; exact ht
theorem stepOut_text {acc : List Tok} {c : UInt8} {l : Bytes} {a : List Tok} {t : Sc} {r : Bytes} (h : stepOut acc c l = .inl (a, t, r)) (ha : allT acc) : allT a ∧ (wOf t).all text = true := by
  unfold stepOut at h
  by_cases c1 : foldAt (c :: l) = true
  · rw [if_pos c1] at h; cases h; exact ⟨ha, rfl⟩
  rw [if_neg c1] at h
  by_cases c2 : atomic c = true
  · rw [if_pos c2] at h; cases h; exact ⟨ha, by simp [wOf, atomic_text c c2]⟩
  rw [if_neg c2] at h
  by_cases c3 : c = 34
  · rw [if_pos c3] at h; cases h; exact ⟨ha, rfl⟩
  rw [if_neg c3] at h
  by_cases c4 : c = 40
  · rw [if_pos c4] at h; cases h; exact ⟨ha, rfl⟩
  rw [if_neg c4] at h
  by_cases c5 : signB c = true
  · rw [if_pos c5] at h; cases h; exact ⟨allT_add ha (by simp [sign_text c c5]), rfl⟩
  rw [if_neg c5] at h
  by_cases c6 : whiteB c = true
  · rw [if_pos c6] at h; cases h; exact ⟨ha, rfl⟩
  rw [if_neg c6] at h
  cases h
theorem commAfter_text {acc : List Tok} {d : Nat} {l : Bytes} {a : List Tok} {t : Sc} {r : Bytes} (h : commAfter acc d l = .inl (a, t, r)) (ha : allT acc) : allT a ∧ (wOf t).all text = true := by
  unfold commAfter at h
  split at h
  · cases h
  · split at h <;> (cases h; exact ⟨ha, rfl⟩)
theorem step_text {acc : List Tok} {st : Sc} {c : UInt8} {l : Bytes} {a : List Tok} {t : Sc} {r : Bytes} (h : step acc st c l = .inl (a, t, r)) (ha : allT acc) (hw : (wOf st).all text = true) : allT a ∧ (wOf t).all text = true := by
  cases st with
  | out => exact stepOut_text h ha
  | atom w =>
    unfold step at h
    simp only [] at h
    by_cases c2 : atomic c = true
    · rw [if_pos c2] at h; cases h
      exact ⟨ha, by show (w ++ [c]).all text = true; rw [List.all_append]; simp [atomic_text c c2]; simpa [wOf] using hw⟩
    · rw [if_neg c2] at h
      exact stepOut_text h (allT_add ha hw)
  | quot w b =>
    have add : text c = true → (w ++ [c]).all text = true := fun ht => by
      rw [List.all_append]; simp [ht]; simpa [wOf] using hw
    cases b with
    | true =>
      unfold step at h
      simp only [] at h
      by_cases c2 : text c = true
      · rw [if_pos c2] at h; cases h; exact ⟨ha, add c2⟩
      · rw [if_neg c2] at h; cases h
    | false =>
      unfold step at h
      simp only [] at h
      by_cases c1 : foldAt (c :: l) = true
      · rw [if_pos c1] at h; cases h; exact ⟨ha, hw⟩
      rw [if_neg c1] at h
      by_cases c3 : c = 92
      · rw [if_pos c3] at h; cases h; exact ⟨ha, hw⟩
      rw [if_neg c3] at h
      by_cases c2 : text c = true
      · rw [if_pos c2] at h
        by_cases c4 : c = 34
        · rw [if_pos c4] at h; cases h; exact ⟨allT_add ha hw, rfl⟩
        · rw [if_neg c4] at h; cases h; exact ⟨ha, add c2⟩
      · rw [if_neg c2] at h; cases h
  | comm d b =>
    cases b with
    | true =>
      unfold step at h
      simp only [] at h
      split at h <;> cases h
      exact ⟨ha, rfl⟩
    | false =>
      unfold step at h
      simp only [] at h
      by_cases c1 : foldAt (c :: l) = true
      · rw [if_pos c1] at h; cases h; exact ⟨ha, rfl⟩
      rw [if_neg c1] at h
      by_cases c3 : c = 92
      · rw [if_pos c3] at h; cases h; exact ⟨ha, rfl⟩
      rw [if_neg c3] at h
      by_cases c2 : text c = true
      · rw [if_pos c2] at h; exact commAfter_text h ha
      · rw [if_neg c2] at h; cases h
theorem scan_text : ∀ (k : Nat) (acc : List Tok) (st : Sc) (l : Bytes), allT acc → (wOf st).all text = true → allT (scan k acc st l).1
  | k, acc, st, [], ha, hw => by
    have e : scan k acc st [] = endOf acc st := by cases k <;> rfl
    rw [e]
    cases st with
    | out => exact ha
    | atom w => exact allT_add ha hw
    | quot w b => intro t ht; cases ht
    | comm d b => intro t ht; cases ht
  | 0, acc, st, c :: l, ha, hw => by intro t ht; cases ht
  | k + 1, acc, st, c :: l, ha, hw => by
    rw [scan]
    cases hs : step acc st c l with
    | inr e => intro t ht; cases ht
    | inl x =>
      obtain ⟨a, t, r⟩ := x
      have := step_text hs ha hw
      exact scan_text k a t r this.1 this.2
theorem pcs_text : ∀ (T : List Tok) (acc : List Bytes) (w : Bytes), allT T → (∀ x ∈ acc, x.all text = true) → w.all text = true → ∀ x ∈ pcs acc w T, x.all text = true
  | [], acc, w, hT, ha, hw => by
    rw [pcs]
    intro x hx
    rcases List.mem_append.1 hx with h1 | h1
    · exact ha x h1
    · rw [List.mem_singleton.1 h1]; exact hw
  | t :: T, acc, w, hT, ha, hw => by
    rw [pcs]
    have hT2 : allT T := fun x hx => hT x (by simp [hx])
    split
    · refine pcs_text T (acc ++ [w]) [] hT2 (fun x hx => ?_) rfl
      rcases List.mem_append.1 hx with h1 | h1
      · exact ha x h1
      · rw [List.mem_singleton.1 h1]; exact hw
    · refine pcs_text T acc (w ++ t.2) hT2 ha ?_
      rw [List.all_append, hw, hT t (by simp)]; rfl
theorem pcs_sum : ∀ (T : List Tok) (acc : List Bytes) (w : Bytes), ((pcs acc w T).map List.length).sum ≤ (acc.map List.length).sum + w.length + (cat T).length
  | [], acc, w => by rw [pcs, List.map_append, List.sum_append]; simp
  | t :: T, acc, w => by
    have hc : (cat (t :: T)).length = t.2.length + (cat T).length := by simp [cat]
    rw [pcs]
    split
    · have := pcs_sum T (acc ++ [w]) []
      rw [List.map_append, List.sum_append] at this
      simp only [List.map_cons, List.map_nil, List.sum_cons, List.sum_nil, List.length_nil] at this
      omega
    · have := pcs_sum T acc (w ++ t.2)
      rw [List.length_append] at this
      omega
/-! What is written. -/
theorem scan_quotedT (acc : List Tok) (l : Bytes) : ∀ (a w : Bytes), a.all text = true → scanL acc (.quot w false) (a.flatMap qB ++ 34 :: l) = scanL (acc ++ [(2, w ++ a)]) .out l
  | [], w, _ => by
    rw [List.flatMap_nil, List.nil_append, scanL_cons, List.append_nil]
    unfold step
    simp only []
    rw [fold_not (by decide), if_neg (by decide), if_neg (by decide), text_34, if_pos rfl, if_pos trivial]
  | c :: a, w, h => by
    simp only [List.all_cons, Bool.and_eq_true] at h
    have ht := h.1
    have h13 : c ≠ 13 := fun e => by rw [e, text_13] at ht; cases ht
    have ih := scan_quotedT acc l a (w ++ [c]) h.2
    rw [List.flatMap_cons, List.append_assoc]
    by_cases hc : c = 34 ∨ c = 92
    · rw [show qB c = [92, c] by unfold qB; rw [if_pos hc], List.cons_append, scanL_cons]
      have hs : step acc (.quot w false) 92 ([c] ++ (a.flatMap qB ++ 34 :: l)) = .inl (acc, .quot w true, [c] ++ (a.flatMap qB ++ 34 :: l)) := by
        unfold step
        simp only []
        rw [fold_not (by decide), if_neg (by decide), if_pos trivial]
      rw [hs]
      simp only []
      rw [List.cons_append, List.nil_append, scanL_cons]
      have hs2 : step acc (.quot w true) c (a.flatMap qB ++ 34 :: l) = .inl (acc, .quot (w ++ [c]) false, a.flatMap qB ++ 34 :: l) := by
        unfold step
        simp only []
        rw [ht, if_pos rfl]
      rw [hs2]
      simp only []
      rw [ih]
      simp
    · have h34 : c ≠ 34 := fun e => hc (.inl e)
      have h92 : c ≠ 92 := fun e => hc (.inr e)
      rw [show qB c = [c] by unfold qB; rw [if_neg hc, if_pos ht], List.cons_append, List.nil_append, scanL_cons]
      have hs : step acc (.quot w false) c (a.flatMap qB ++ 34 :: l) = .inl (acc, .quot (w ++ [c]) false, a.flatMap qB ++ 34 :: l) := by
        unfold step
        simp only []
        rw [fold_not h13, if_neg (by decide), if_neg h92, ht, if_pos rfl, if_neg h34]
      rw [hs]
      simp only []
      rw [ih]
      simp
theorem scan_semi (acc : List Tok) (l : Bytes) : scanL acc .out (59 :: 32 :: l) = scanL (acc ++ [(3, [59])]) .out l := by
  have h : (59 : UInt8) ≠ 13 ∧ atomic 59 = false ∧ (59 : UInt8) ≠ 34 ∧ (59 : UInt8) ≠ 40 ∧ signB 59 = true := by decide +kernel
  have g : (32 : UInt8) ≠ 13 ∧ atomic 32 = false ∧ (32 : UInt8) ≠ 34 ∧ (32 : UInt8) ≠ 40 ∧ signB 32 = false ∧ whiteB 32 = true := by decide +kernel
  rw [scanL_cons]
  have hs : step acc .out 59 (32 :: l) = .inl (acc ++ [(3, [59])], .out, 32 :: l) := by
    unfold step stepOut
    simp only []
    rw [fold_not h.1, h.2.1, h.2.2.2.2, if_neg (by decide), if_neg (by decide), if_neg h.2.2.1, if_neg h.2.2.2.1, if_pos rfl]
  rw [hs]
  simp only []
  rw [scanL_cons]
  have hs2 : step (acc ++ [(3, [59])]) .out 32 l = .inl (acc ++ [(3, [59])], .out, l) := by
    unfold step stepOut
    simp only []
    rw [fold_not g.1, g.2.1, g.2.2.2.2.1, g.2.2.2.2.2, if_neg (by decide), if_neg (by decide), if_neg g.2.2.1, if_neg g.2.2.2.1, if_neg (by decide), if_pos rfl]
  rw [hs2]
theorem scan_34 (acc : List Tok) (l : Bytes) : scanL acc .out (34 :: l) = scanL acc (.quot [] false) l := by
  have h : (34 : UInt8) ≠ 13 ∧ atomic 34 = false := by decide +kernel
  rw [scanL_cons]
  have hs : step acc .out 34 l = .inl (acc, .quot [] false, l) := by
    unfold step stepOut
    simp only []
    rw [fold_not h.1, h.2, if_neg (by decide), if_neg (by decide), if_pos trivial]
  rw [hs]
theorem stops_of (c : UInt8) (l : Bytes) (h : atomic c = false) : stops (c :: l) := by
  intro d r e
  obtain ⟨rfl, rfl⟩ := List.cons.inj e
  exact h
def goodP (x : Bytes × Bytes) : Prop := atomL x.1 = true ∧ (61 : UInt8) ∉ x.1 ∧ fold x.1 = x.1 ∧ x.2.all text = true
def plainW (v : Bytes) : Bool := atomL v && (!hasB 61 v && (!hasB 47 v && !hasB 63 v))
def toksP (x : Bytes × Bytes) : List Tok := (3, [59]) :: (if plainW x.2 = true then [(1, x.1 ++ 61 :: x.2)] else [(1, x.1 ++ [61]), (2, x.2)])
theorem atomic_61 : atomic 61 = true := by decide +kernel
theorem atomL_app {a b : Bytes} (ha : atomL a = true) (hb : b.all atomic = true) : atomL (a ++ b) = true := by
  unfold atomL at ha ⊢
  rw [Bool.and_eq_true] at ha
  rw [List.all_append, ha.1, hb]
  cases a with
  | nil => simp at ha
  | cons c m => rfl
theorem stops_params : ∀ T : List (Bytes × Bytes), stops (T.flatMap par1)
  | [] => stops_nil
  | x :: T => stops_of 59 _ (by decide +kernel)
theorem scan_params : ∀ (T : List (Bytes × Bytes)) (acc : List Tok), (∀ x ∈ T, goodP x) → scanL acc .out (T.flatMap par1) = (acc ++ T.flatMap toksP, 0)
  | [], acc, _ => by
    rw [List.flatMap_nil, scanL_nil]
    simp [endOf]
  | x :: T, acc, h => by
    obtain ⟨g1, g2, g3, g4⟩ := h x (by simp)
    have ih := fun acc => scan_params T acc (fun y hy => h y (by simp [hy]))
    have hst := stops_params T
    rw [List.flatMap_cons, List.flatMap_cons]
    by_cases hp : plainW x.2 = true
    · have hv : atomL x.2 = true := by unfold plainW at hp; simp only [Bool.and_eq_true] at hp; exact hp.1
      have hw : wordV x.2 = x.2 := by unfold wordV; exact if_pos hp
      have hva : (61 :: x.2).all atomic = true := by
        unfold atomL at hv
        rw [Bool.and_eq_true] at hv
        rw [List.all_cons, atomic_61, hv.1]; rfl
      have e1 : par1 x ++ T.flatMap par1 = 59 :: 32 :: ((x.1 ++ 61 :: x.2) ++ T.flatMap par1) := by unfold par1; rw [hw]; simp
      rw [e1, scan_semi, scan_word _ _ _ (atomL_app g1 hva) hst, ih]
      unfold toksP
      rw [if_pos hp]
      simp
    · have hw : wordV x.2 = quote x.2 := by unfold wordV; exact if_neg hp
      have e1 : par1 x ++ T.flatMap par1 = 59 :: 32 :: ((x.1 ++ [61]) ++ 34 :: (x.2.flatMap qB ++ 34 :: T.flatMap par1)) := by unfold par1 ; rw [hw]; unfold quote; simp
      rw [e1, scan_semi, scan_word _ _ _ (atomL_app g1 (by rw [List.all_cons, atomic_61]; rfl)) (stops_of 34 _ (by decide +kernel)), scan_34, scan_quotedT _ _ _ _ g4, ih]
      unfold toksP
      rw [if_neg hp]
      simp
theorem pcs_params : ∀ (T : List (Bytes × Bytes)) (acc : List Bytes) (w : Bytes), pcs acc w (T.flatMap toksP) = acc ++ w :: T.map fun x => x.1 ++ 61 :: x.2
  | [], acc, w => rfl
  | x :: T, acc, w => by
    rw [List.flatMap_cons]
    have no1 : ∀ q : Bytes, ¬ isT ((1 : Int), q) [59] = true := fun q => by unfold isT; simp
    have no2 : ∀ q : Bytes, ¬ isT ((2 : Int), q) [59] = true := fun q => by unfold isT; simp
    have y3 : isT ((3 : Int), [59]) [59] = true := rfl
    by_cases hp : plainW x.2 = true
    · rw [show toksP x = [(3, [59]), (1, x.1 ++ 61 :: x.2)] by unfold toksP; rw [if_pos hp], List.cons_append, List.cons_append, List.nil_append, pcs, if_pos y3, pcs, if_neg (no1 _), pcs_params T]
      simp
    · rw [show toksP x = [(3, [59]), (1, x.1 ++ [61]), (2, x.2)] by unfold toksP; rw [if_neg hp], List.cons_append, List.cons_append, List.cons_append, List.nil_append, pcs, if_pos y3, pcs, if_neg (no1 _), pcs, if_neg (no2 _), pcs_params T]
      simp
theorem index_app (c : UInt8) : ∀ (a b : Bytes), c ∉ a → Lib.indexByte (a ++ c :: b) c = (a.length : Int)
  | [], b, _ => by
    rw [List.nil_append, Lib.indexByte, if_pos (by simp)]; rfl
  | x :: a, b, h => by
    simp only [List.mem_cons, not_or] at h
    have ih := index_app c a b h.2
    rw [List.cons_append, Lib.indexByte, if_neg (by simpa using fun e => h.1 e.symm), ih, if_neg (by simp only [beq_iff_eq]; omega)]
    simp
theorem cutL_app (c : UInt8) (a b : Bytes) (h : c ∉ a) : cutL c (a ++ c :: b) = (a, b, true) := by
  unfold cutL
  rw [index_app c a b h, if_neg (by omega), Int.toNat_natCast, take_of_app rfl, drop_of_app rfl]
theorem params_back : ∀ T : List (Bytes × Bytes), (∀ x ∈ T, goodP x) → paramsL (T.map fun x => x.1 ++ 61 :: x.2) = some T
  | [], _ => rfl
  | x :: T, h => by
    obtain ⟨g1, g2, g3, g4⟩ := h x (by simp)
    rw [List.map_cons, paramsL, paramL, cutL_app 61 x.1 x.2 g2, if_pos rfl, if_pos g1, g3, Option.bind_some, params_back T (fun y hy => h y (by simp [hy]))]
    rfl
theorem type_back (d : Bytes) (T : List (Bytes × Bytes)) (hk : kindL d = true) (hf : fold d = d) (hT : ∀ x ∈ T, goodP x) : readTypeL (typeText d T) = some (d, T) := by
  have ha : atomL d = true := by
    unfold kindL at hk
    simp only [Bool.and_eq_true] at hk
    exact hk.2.2.2.2
  unfold readTypeL typeText
  rw [scan_word [] d _ ha (stops_params T), scan_params T _ hT]
  simp only []
  rw [if_pos trivial, List.nil_append, List.singleton_append, pcs, if_neg (by unfold isT; simp), pcs_params, List.nil_append, List.nil_append, typeL, if_pos hk, params_back T hT, hf]
  rfl
end Go.Proofs.YtgaaogijfikfeaaDoor.Pl
set_option linter.unusedVariables false
namespace Go.Proofs.YtgaaogijfikfeaaDoor.Fn
open Go.RowKit Go.Proofs.YtgaaogijfikfeaaDoorW.PrintWords

/-! strings.IndexRune of a blank text at a sign beyond ASCII: -1. -/
end Go.Proofs.YtgaaogijfikfeaaDoor.Fn
set_option linter.unusedVariables false
namespace Go.Proofs.YtgaaogijfikfeaaDoor.Fn
open Go.RowKit Go.Proofs.YtgaaogijfikfeaaDoorW.PrintWords

end Go.Proofs.YtgaaogijfikfeaaDoor.Fn
set_option linter.unusedVariables false
namespace Go.Proofs.YtgaaogijfikfeaaDoor.Fn
open Go.RowKit Go.Proofs.YtgaaogijfikfeaaDoorW.PrintWords

end Go.Proofs.YtgaaogijfikfeaaDoor.Fn
namespace Go.Proofs.YtgaaogijfikfeaaDoor.Fn
open Go.RowKit Go.Proofs.YtgaaogijfikfeaaDoorW.PrintWords Go.Proofs.YtgaaogijfikfeaaDoorW.PrintLast Go.Proofs.YtgaaogijfikfeaaDoorW.PrintMore
attribute [local go_sem] max2_int min2_int max_two min_two max_three min_three max_four min_four
set_option linter.unusedVariables false
set_option linter.unusedSimpArgs false

/-! ### head_piece: function 126 -/
end Go.Proofs.YtgaaogijfikfeaaDoor.Fn
set_option linter.unusedVariables false
set_option linter.unusedSimpArgs false
namespace Go.Proofs.YtgaaogijfikfeaaDoor.Pl
open Go.RowKit Go.Proofs.YtgaaogijfikfeaaDoorW.PrintWords Go.Proofs.YtgaaogijfikfeaaDoor.Fn

/-! head: how a field is written, in pieces. -/
def wb (c : UInt8) : Bool := ([32, 9] : List UInt8).contains c
def lead (s : Bytes) : Nat := (s.takeWhile wb).length
def word (s : Bytes) : Nat := (s.takeWhile (fun c => !wb c)).length
end Go.Proofs.YtgaaogijfikfeaaDoor.Pl
set_option linter.unusedVariables false
set_option linter.unusedSimpArgs false
namespace Go.Proofs.YtgaaogijfikfeaaDoor.Pl
open Go.RowKit Go.Proofs.YtgaaogijfikfeaaDoorW.PrintWords Go.Proofs.YtgaaogijfikfeaaDoor.Fn

/-! Trim of the document's layer 15, alone (as in XRHead; for seats without the fields' Parse: never import both). -/
theorem wb_nat (c : UInt8) : wb c = (decide (c.toNat = 32) || decide (c.toNat = 9)) := by
  unfold wb
  simp only [List.contains_cons, List.contains_nil, Bool.or_false]
  have e : ∀ n : UInt8, (c == n) = decide (c.toNat = n.toNat) := fun n => by
    rw [Bool.eq_iff_iff, beq_iff_eq, decide_eq_true_iff]
    exact ⟨fun h => by rw [h], fun h => UInt8.toNat_inj.1 h⟩
  rw [e, e]
  rfl
theorem refblank_is (c : UInt8) : bulletinref15_blank.f (c.toNat : Int) = some (wb c) := by
  unfold bulletinref15_blank.f
  rw [wb_nat]
  by_cases a : c.toNat = 32
  · rw [if_pos (by omega)]; simp [a]
  · rw [if_neg (by omega)]
    simp only [a, decide_false, Bool.false_or]
    congr 1
    rw [Bool.eq_iff_iff, beq_iff_eq, decide_eq_true_iff]
    omega
def ltrim (s : Bytes) : Bytes := s.dropWhile wb
def rtrim (s : Bytes) : Bytes := (s.reverse.dropWhile wb).reverse
theorem rtrim_snoc (l : Bytes) (c : UInt8) : rtrim (l ++ [c]) = if wb c = true then rtrim l else l ++ [c] := by
  unfold rtrim
  rw [List.reverse_append, List.reverse_singleton, List.singleton_append]
  by_cases hc : wb c = true
  · rw [if_pos hc, List.dropWhile_cons_of_pos hc]
  · rw [if_neg hc, List.dropWhile_cons_of_neg hc]; simp
theorem rtrim_rounds : ∀ (n : Nat) (l : Bytes) (k : Nat), l.length = n → n < k → n ≤ 1000000000 → bulletinref15_Trim.l1 k (str l) = some (str (rtrim l)) := by
  intro n
  induction n with
  | zero =>
    intro l k h hk hn
    obtain ⟨k, rfl⟩ : ∃ m, k = m + 1 := ⟨k - 1, by omega⟩
    obtain rfl := List.eq_nil_of_length_eq_zero h
    rw [bulletinref15_Trim.l1, if_neg (by rw [str_size]; simp)]
    rfl
  | succ n ih =>
    intro l k h hk hn
    obtain ⟨k, rfl⟩ : ∃ m, k = m + 1 := ⟨k - 1, by omega⟩
    obtain ⟨r, c, rfl⟩ : ∃ r c, l = r ++ [c] := by
      rcases List.eq_nil_or_concat l with e | ⟨r, c, e⟩
      · subst e; simp at h
      · exact ⟨r, c, by rw [e]; simp⟩
    rw [List.length_append] at h
    simp only [List.length_cons, List.length_nil] at h
    have hz : (str (r ++ [c])).size = r.length + 1 := by rw [str_size, List.length_append]; rfl
    have hw : wrap64 (((r.length + 1 : Nat) : Int) - 1) = (r.length : Int) := by rw [wrap_id (by omega) (by omega)]; omega
    have hbt : bt (str (r ++ [c])) (r.length : Int) = (c.toNat : Int) := bt_drop (r := []) (by rw [bs_str, List.drop_left])
    have hx : (str (r ++ [c])).extract 0 r.length = str r := by rw [str_extract, List.take_left, List.drop_zero]
    rw [bulletinref15_Trim.l1, hz, hw, if_pos (by omega), if_pos (by omega), if_pos (by omega), hbt, refblank_is, Option.bind_some, rtrim_snoc]
    by_cases hc : wb c = true
    · rw [if_pos hc, if_pos hc, if_pos (by omega), Int.toNat_natCast, hx]
      exact ih r k (by omega) (by omega) (by omega)
    · rw [if_neg hc, if_neg hc]
theorem ltrim_rounds : ∀ (l : Bytes) (k : Nat), 2 * l.length + 2 < k → l.length ≤ 1000000000 → bulletinref15_Trim.l0 k (str l) = some (str (rtrim (ltrim l))) := by
  intro l
  induction l with
  | nil =>
    intro k hk hn
    obtain ⟨k, rfl⟩ : ∃ m, k = m + 2 := ⟨k - 2, by omega⟩
    rw [bulletinref15_Trim.l0, if_neg (by rw [str_size]; simp), bulletinref15_Trim.j1]
    exact rtrim_rounds 0 [] k rfl (by simp at hk; omega) (by omega)
  | cons c r ih =>
    intro k hk hn
    obtain ⟨k, rfl⟩ : ∃ m, k = m + 2 := ⟨k - 2, by omega⟩
    have hz : (str (c :: r)).size = r.length + 1 := str_size _
    have hbt : bt (str (c :: r)) 0 = (c.toNat : Int) := bt_drop (i := 0) (by rw [bs_str, List.drop_zero])
    simp only [List.length_cons] at hk hn
    rw [bulletinref15_Trim.l0, hz, if_pos (by omega), if_pos (by omega), hbt, refblank_is, Option.bind_some]
    by_cases hc : wb c = true
    · have hx : (str (c :: r)).extract 1 (r.length + 1) = str r := by
        rw [str_extract, List.take_of_length_le (by simp)]; rfl
      rw [if_pos hc, if_pos (by omega), hx, ih (k + 1) (by omega) (by omega), show ltrim (c :: r) = ltrim r from List.dropWhile_cons_of_pos hc]
    · rw [if_neg hc, bulletinref15_Trim.j1, show ltrim (c :: r) = c :: r from List.dropWhile_cons_of_neg hc]
      exact rtrim_rounds _ (c :: r) k rfl (by simp only [List.length_cons]; omega) (by simp only [List.length_cons]; omega)
theorem reftrim2_is (l : Bytes) (h : l.length ≤ 1000000000) (k : Nat) (hk : 2 * l.length + 2 < k) : bulletinref15_Trim.f k (str l) = some (str (rtrim (ltrim l))) := by
  unfold bulletinref15_Trim.f
  exact ltrim_rounds l k hk h
end Go.Proofs.YtgaaogijfikfeaaDoor.Pl
set_option linter.unusedVariables false
set_option linter.unusedSimpArgs false
namespace Go.Proofs.YtgaaogijfikfeaaDoor.Pl
open Go.RowKit Go.Proofs.YtgaaogijfikfeaaDoorW.PrintWords Go.Proofs.YtgaaogijfikfeaaDoor.Fn

/-! Layer 20, the document's: a type of right words. -/
theorem hasB_iff (c : UInt8) (l : Bytes) (h : (splitL c l).length = 1) : c ∉ l := hasB_mem (by rw [hasB_len]; exact decide_eq_false (by omega))
theorem right_l1 (D : ByteArray) (T : List S154) (n : ByteArray) (v : Bytes) (hv : v.length ≤ 1000000) (i : Int) (k : Nat) : ∀ (rest : Bytes) (j : Nat), v.drop j = rest → j ≤ v.length →
    bulletinref20_RightType.l1 (k + 1 + rest.length) i (j : Int) D T n (str v) = if rest.all text = true then bulletinref20_RightType.l0 k (wrap64 (i + 1)) D T else some false
  | [], j, hd, hj => by
    have : v.length ≤ j := by
      have := congrArg List.length hd
      rw [List.length_drop, List.length_nil] at this; omega
    rw [List.length_nil, Nat.add_zero, bulletinref20_RightType.l1, if_neg (by rw [str_size]; omega), if_pos (by rfl)]
  | c :: rest, j, hd, hj => by
    obtain ⟨h1, h2⟩ := dropS_lt hd
    rw [List.length_cons, ← Nat.add_assoc, bulletinref20_RightType.l1, if_pos (by rw [str_size]; omega), if_pos (by omega), bt_drop (s := str v) (i := j) (r := rest) (by rw [bs_str]; exact hd), reftext_is, Option.bind_some, List.all_cons]
    cases ht : text c with
    | false => rw [if_neg (by decide), if_neg (by simp)]
    | true =>
      rw [if_pos rfl, wrap_succ j (by omega), right_l1 D T n v hv i k rest (j + 1) h2 (by omega), Bool.true_and]
set_option maxRecDepth 100000 in
theorem right_l0 (D : Bytes) (hD : D.length ≤ 1000) (T : List (Bytes × Bytes)) (hT : T.length ≤ 1000) (hx : ∀ x ∈ T, x.1.length ≤ 1000 ∧ x.2.length ≤ 1000) : ∀ (r : List (Bytes × Bytes)) (i k : Nat), T.drop i = r → r.length * 2000 + 5000 ≤ k →
    ∃ b, bulletinref20_RightType.l0 k (i : Int) (str D) (T.map par154) = some b ∧ (b = true → ∀ x ∈ r, goodP x) := by
  intro r
  induction r with
  | nil =>
    intro i k hd hk
    obtain ⟨k, rfl⟩ : ∃ j, k = j + 1 := ⟨k - 1, by omega⟩
    have : T.length ≤ i := by
      have := congrArg List.length hd
      rw [List.length_drop, List.length_nil] at this; omega
    rw [bulletinref20_RightType.l0, if_neg (by rw [List.length_map]; omega), reftrim2_is D (by omega) k (by omega), Option.bind_some]
    exact ⟨_, rfl, fun _ x hx => by cases hx⟩
  | cons t r ih =>
    intro i k hd hk
    obtain ⟨h1, h2⟩ := dropS_lt hd
    simp only [List.length_cons] at hk
    obtain ⟨hp1, hp2⟩ := hx t (List.mem_of_mem_drop (by rw [hd]; simp))
    obtain ⟨k, rfl⟩ : ∃ j, k = j + 1 + t.2.length + 1 + 1 := ⟨k - 3 - t.2.length, by omega⟩
    have hk2 : r.length * 2000 + 5000 ≤ k := by omega
    have hi2 : i ≤ 1000 := by omega
    have f0 : (par154 t).f0 = str t.1 := rfl
    have f1 : (par154 t).f1 = str t.2 := rfl
    have no : ∃ b, bulletinref20_RightType.j2 (k + 1 + t.2.length + 1) (i : Int) true (str D) (T.map par154) (str t.1) (str t.2) = some b ∧ (b = true → ∀ x ∈ t :: r, goodP x) := by
      rw [bulletinref20_RightType.j2, if_pos rfl]
      exact ⟨_, rfl, fun h => by cases h⟩
    rw [bulletinref20_RightType.l0, if_pos (by rw [List.length_map]; omega), if_pos (by omega), rd154_drop hd, f0, f1, refIsAtom_is _ (by rw [str_size]; omega) _ (by rw [str_size]; omega), Option.bind_some, bs_str]
    by_cases ha : atomL t.1 = true
    · rw [if_pos ha, refhas61 _ (by rw [str_size]; omega) _ (by rw [str_size]; omega), Option.bind_some, bs_str]
      have h61 := List.length_pos_iff.2 (splitL_ne 61 t.1)
      by_cases hh : (splitL 61 t.1).length = 1
      · rw [if_neg (by omega), ref_fold _ (by rw [str_size]; omega) _ (by rw [str_size]; omega), Option.bind_some, bs_str, toList_str, toList_str]
        by_cases hf : fold t.1 = t.1
        · rw [show (fold t.1 != t.1) = false by simp [hf], bulletinref20_RightType.j2, if_neg (by decide)]
          have hl := right_l1 (str D) (T.map par154) (str t.1) t.2 (by omega) (i : Int) k t.2 0 rfl (by omega)
          rw [show ((0 : Nat) : Int) = 0 from rfl] at hl
          rw [hl]
          by_cases ht : t.2.all text = true
          · rw [if_pos ht, wrap_succ i (by omega)]
            obtain ⟨b, e, hb⟩ := ih (i + 1) k h2 hk2
            refine ⟨b, e, fun hq x hm => ?_⟩
            rcases List.mem_cons.1 hm with rfl | hm
            · exact ⟨ha, hasB_iff 61 _ hh, hf, ht⟩
            · exact hb hq x hm
          · rw [if_neg ht]
            exact ⟨_, rfl, fun h => by cases h⟩
        · rw [show (fold t.1 != t.1) = true by simp [hf]]
          exact no
      · rw [if_pos (by omega)]
        exact no
    · rw [if_neg ha]
      exact no
set_option maxRecDepth 100000 in
theorem refRightType_is (D : Bytes) (hD : D.length ≤ 1000) (T : List (Bytes × Bytes)) (hT : T.length ≤ 20) (hx : ∀ x ∈ T, x.1.length ≤ 1000 ∧ x.2.length ≤ 1000) (k : Nat) (hk : 100000 ≤ k) :
    ∃ b, bulletinref20_RightType.f k (str D) (T.map par154) = some b ∧ (b = true → kindL D = true ∧ fold D = D ∧ ∀ x ∈ T, goodP x) := by
  obtain ⟨k, rfl⟩ : ∃ j, k = j + 1 := ⟨k - 1, by omega⟩
  have no : ∃ b, bulletinref20_RightType.j0 (k + 1) true (str D) (T.map par154) = some b ∧ (b = true → kindL D = true ∧ fold D = D ∧ ∀ x ∈ T, goodP x) := by
    rw [bulletinref20_RightType.j0, if_pos rfl]
    exact ⟨_, rfl, fun h => by cases h⟩
  have hsz := str_size D
  unfold bulletinref20_RightType.f
  rw [refIsAtom_is _ (by omega) _ (by omega), Option.bind_some, bs_str]
  by_cases ha : atomL D = true
  · rw [if_pos ha, refhas47 _ (by omega) _ (by omega), Option.bind_some, bs_str]
    have h1 := List.length_pos_iff.2 (splitL_ne 47 D)
    by_cases hc : (splitL 47 D).length = 2
    · obtain ⟨c, m, x, n, ep, en, hK⟩ := kind_is D ha hc
      have hb0 : bt (str D) 0 = (c.toNat : Int) := bt_drop (i := 0) (r := m) (by rw [bs_str]; exact ep)
      have hnl : D.length = n.length + 1 := by rw [en]; simp
      have hbn : bt (str D) (n.length : Int) = (x.toNat : Int) := bt_drop (i := n.length) (r := []) (by rw [bs_str, en]; simp)
      have hwe : ((str D).size : Int) - 1 = (n.length : Int) := by omega
      have ec : ((c.toNat : Int) = 47) = (c = 47) := byte_eq c 47 (by decide)
      have ex : ((x.toNat : Int) = 47) = (x = 47) := byte_eq x 47 (by decide)
      rw [if_pos (by omega), if_pos (by omega), hb0]
      by_cases hcc : c = 47
      · rw [if_pos (by rw [ec]; exact hcc)]; exact no
      · rw [if_neg (by rw [ec]; exact hcc), hwe, wrap_id (x := (n.length : Int)) (by omega) (by omega), if_pos (by omega), if_pos (by omega), hbn]
        by_cases hxx : x = 47
        · rw [if_pos (by rw [ex]; exact hxx)]; exact no
        · rw [if_neg (by rw [ex]; exact hxx), ref_fold _ (by omega) _ (by omega), Option.bind_some, bs_str, toList_str, toList_str]
          by_cases hf : fold D = D
          · rw [show (fold D != D) = false by simp [hf], bulletinref20_RightType.j0, if_neg (by decide)]
            obtain ⟨b, e, hb⟩ := right_l0 D hD T (by omega) hx T 0 k rfl (by omega)
            exact ⟨b, e, fun hq => ⟨by rw [hK, show (c == 47) = false by simpa using hcc, show (x == 47) = false by simpa using hxx]; rfl, hf, hb hq⟩⟩
          · rw [show (fold D != D) = true by simp [hf]]; exact no
    · rw [if_neg (by omega)]; exact no
  · rw [if_neg ha]; exact no
end Go.Proofs.YtgaaogijfikfeaaDoor.Pl
namespace Go.Proofs.YtgaaogijfikfeaaDoor.Fn
open Go.RowKit Go.Proofs.YtgaaogijfikfeaaDoorW.PrintWords Go.Proofs.YtgaaogijfikfeaaDoorW.PrintLast Go.Proofs.YtgaaogijfikfeaaDoorW.PrintMore
attribute [local go_sem] max2_int min2_int max_two min_two max_three min_three max_four min_four
set_option linter.unusedVariables false
set_option linter.unusedSimpArgs false

/-! ### bulletinlaw20_MimeTypes: function 13 -/
mutual
def bulletinlaw20_MimeTypes.j0 : Nat → ByteArray → ByteArray → Bool → ByteArray → List (S154) → Option (Bool)
 | 0, _, _, _, _, _ => none
 | k + 1, x0, x2, x28, x787000, x787001 => if x28 = true then ((bulletinlaw20_works.f k).bind fun t788 => (some t788)) else ((mime_ReadType.f k x0).bind fun bt789 => ((bulletinref20_ReadType.f k x0).bind fun bt795 => ((bulletinlaw20_Same.f k bt789.1 bt789.2.1 bt795.1 bt795.2.1).bind fun t801 => (if t801 = true then (if ((bt789.2.2 == 0) != bt795.2.2) = true then (bulletinlaw20_MimeTypes.j1 k x2 true x787000 x787001) else (if bt795.2.2 = true then (bulletinlaw20_MimeTypes.j1 k x2 false x787000 x787001) else (bulletinlaw20_MimeTypes.j1 k x2 (bt789.2.2 != 200) x787000 x787001))) else (bulletinlaw20_MimeTypes.j1 k x2 true x787000 x787001)))))
def bulletinlaw20_MimeTypes.j1 : Nat → ByteArray → Bool → ByteArray → List (S154) → Option (Bool)
 | 0, _, _, _, _ => none
 | k + 1, x2, x57, x787000, x787001 => if x57 = true then (some false) else ((bulletinlaw20_To.f k x787000 x787001).bind fun bt802 => ((mime_Type_Value.f k bt802.1 bt802.2 x2).bind fun bt807 => ((bulletinref20_Value.f k x787000 x787001 x2).bind fun bt809 => ((mime_Type_Text.f k bt802.1 bt802.2).bind fun t811 => ((bulletinref20_Text.f k x787000 x787001).bind fun t812 => (if t811.toList = t812.toList then (if bt807.1.toList = bt809.1.toList then (if (bt807.2 == bt809.2) = true then ((bulletinlaw20_works.f k).bind fun t813 => (some t813)) else (some false)) else (some false)) else (some false)))))))
end
end Go.Proofs.YtgaaogijfikfeaaDoor.Fn
set_option linter.unusedVariables false
set_option linter.unusedSimpArgs false
namespace Go.Proofs.YtgaaogijfikfeaaDoor.Pl
open Go.RowKit Go.Proofs.YtgaaogijfikfeaaDoorW.PrintWords Go.Proofs.YtgaaogijfikfeaaDoor.Fn

theorem rd154_at (L : List S154) (i : Nat) (h : i < L.length) : rd_T154 L (i : Int) = L[i] := by
  unfold rd_T154
  rw [Int.toNat_natCast, List.getD_eq_getElem?_getD, List.getElem?_eq_getElem h]; rfl
theorem light_l0 (D : ByteArray) (L : List S154) : ∀ (n i k : Nat), i + n = 21 → 2 * n + 2 ≤ k →
    ∃ b, bulletinlaw20_light.l0 k (i : Int) D L = some b ∧ (b = true → L.length ≤ 20 ∧ D.size ≤ 100 ∧ ∀ j (h : j < L.length), i ≤ j → L[j].f0.size ≤ 100 ∧ L[j].f1.size ≤ 300)
  | n, i, k, hi, hk => by
    obtain ⟨k, rfl⟩ : ∃ j, k = j + 1 + 1 := ⟨k - 2, by omega⟩
    rw [bulletinlaw20_light.l0]
    have stop : L.length ≤ i ∨ 20 ≤ i → ∃ b, bulletinlaw20_light.j1 (k + 1) (i : Int) false D L = some b ∧ (b = true → L.length ≤ 20 ∧ D.size ≤ 100 ∧ ∀ j (h : j < L.length), i ≤ j → L[j].f0.size ≤ 100 ∧ L[j].f1.size ≤ 300) := by
      intro hs
      rw [bulletinlaw20_light.j1, if_neg (by decide)]
      by_cases h20 : (L.length : Int) ≤ 20
      · rw [if_pos h20]
        refine ⟨_, rfl, fun hb => ⟨by omega, by have := of_decide_eq_true hb; omega, fun j h hj => ?_⟩⟩
        omega
      · rw [if_neg h20]
        exact ⟨_, rfl, fun hb => absurd hb (by decide)⟩
    by_cases hlt : i < L.length
    · rw [if_pos (by omega)]
      by_cases h20 : (i : Int) < 20
      · rw [decide_eq_true h20, bulletinlaw20_light.j1, if_pos rfl, if_pos (by omega), if_pos (by omega), rd154_at L i hlt]
        by_cases h1 : (L[i].f0.size : Int) > 100
        · rw [if_pos h1]; exact ⟨_, rfl, fun hb => absurd hb (by decide)⟩
        rw [if_neg h1]
        by_cases h2 : (L[i].f1.size : Int) > 300
        · rw [if_pos h2]; exact ⟨_, rfl, fun hb => absurd hb (by decide)⟩
        rw [if_neg h2, wrap_succ i (by omega)]
        cases n with
        | zero => omega
        | succ n =>
          obtain ⟨b, e, hb⟩ := light_l0 D L n (i + 1) k (by omega) (by omega)
          refine ⟨b, e, fun hq => ⟨(hb hq).1, (hb hq).2.1, fun j h hj => ?_⟩⟩
          rcases Nat.lt_or_ge i j with hl | hl
          · exact (hb hq).2.2 j h hl
          · obtain rfl : i = j := by omega
            exact ⟨by omega, by omega⟩
      · rw [decide_eq_false h20]; exact stop (.inr (by omega))
    · rw [if_neg (by omega)]; exact stop (.inl (by omega))
def of154 (x : S154) : Bytes × Bytes := (bs x.f0, bs x.f1)
theorem par154_of (L : List S154) : (L.map of154).map par154 = L := by
  rw [List.map_map]
  have : par154 ∘ of154 = id := funext fun x => by
    show (⟨str (bs x.f0), str (bs x.f1)⟩ : S154) = x
    rw [str_bs, str_bs]
  rw [this, List.map_id]
theorem to20_l0 (D : ByteArray) (T : List (Bytes × Bytes)) (hT : T.length ≤ 1000000) : ∀ (r acc : List (Bytes × Bytes)) (k : Nat), acc ++ r = T → r.length < k →
    bulletinlaw20_To.l0 k (acc.length : Int) D (T.map par154) D (acc.map par158) = some (D, T.map par158)
  | [], acc, k, h, hk => by
    obtain ⟨k, rfl⟩ : ∃ j, k = j + 1 := ⟨k - 1, by omega⟩
    rw [List.append_nil] at h
    subst h
    rw [bulletinlaw20_To.l0, if_neg (by rw [List.length_map]; omega)]
  | t :: r, acc, k, h, hk => by
    obtain ⟨k, rfl⟩ : ∃ j, k = j + 1 := ⟨k - 1, by omega⟩
    have hl := congrArg List.length h
    simp only [List.length_append, List.length_cons] at hl hk
    have hd : T.drop acc.length = t :: r := by rw [← h]; simp
    rw [bulletinlaw20_To.l0, if_pos (by rw [List.length_map]; omega), if_pos (by omega), if_pos (by rw [List.length_map]; omega), rd154_drop hd, wrap_succ _ (by omega)]
    have := to20_l0 D T hT r (acc ++ [t]) k (by simpa using h) (by omega)
    rw [List.length_append, List.map_append] at this
    exact this
theorem to20_is (D : ByteArray) (T : List (Bytes × Bytes)) (hT : T.length ≤ 1000000) (k : Nat) (hk : T.length < k) : bulletinlaw20_To.f k D (T.map par154) = some (D, T.map par158) :=
  to20_l0 D T hT T [] k rfl hk
theorem same20_l0 (D E : ByteArray) (T : List (Bytes × Bytes)) (hT : T.length ≤ 1000000) : ∀ (r : List (Bytes × Bytes)) (i k : Nat), T.drop i = r → r.length < k →
    bulletinlaw20_Same.l0 k true (i : Int) D (T.map par158) E (T.map par154) = some true
  | [], i, k, hd, hk => by
    obtain ⟨k, rfl⟩ : ∃ j, k = j + 1 := ⟨k - 1, by omega⟩
    have : T.length ≤ i := by
      have := congrArg List.length hd
      rw [List.length_drop, List.length_nil] at this; omega
    rw [bulletinlaw20_Same.l0, if_pos rfl, if_neg (by rw [List.length_map]; omega)]
  | t :: r, i, k, hd, hk => by
    obtain ⟨k, rfl⟩ : ∃ j, k = j + 1 := ⟨k - 1, by omega⟩
    obtain ⟨h1, h2⟩ := dropS_lt hd
    simp only [List.length_cons] at hk
    rw [bulletinlaw20_Same.l0, if_pos rfl, if_pos (by rw [List.length_map]; omega), if_pos (by rw [List.length_map]; omega), if_pos (by omega), rd158_drop hd, rd154_drop hd, if_pos (show (par158 t).f0.toList = (par154 t).f0.toList from rfl), wrap_succ i (by omega)]
    rw [show ((par158 t).f1.toList == (par154 t).f1.toList) = true from beq_self_eq_true _]
    exact same20_l0 D E T hT r (i + 1) k h2 (by omega)
theorem same20_is (D : ByteArray) (T : List (Bytes × Bytes)) (hT : T.length ≤ 1000000) (k : Nat) (hk : T.length + 2 ≤ k) : bulletinlaw20_Same.f k D (T.map par158) D (T.map par154) = some true := by
  obtain ⟨k, rfl⟩ : ∃ j, k = j + 1 := ⟨k - 1, by omega⟩
  unfold bulletinlaw20_Same.f
  rw [if_pos rfl, bulletinlaw20_Same.j0, List.length_map, List.length_map, beq_self_eq_true]
  exact same20_l0 D D T hT T 0 k rfl (by omega)
theorem paramsL_len : ∀ (l : List Bytes) {r : List (Bytes × Bytes)}, paramsL l = some r → r.length = l.length
  | [], r, h => by cases h; rfl
  | p :: l, r, h => by
    rw [paramsL] at h
    cases hp : paramL p with
    | none => rw [hp] at h; cases h
    | some x =>
      rw [hp, Option.bind_some] at h
      cases hl : paramsL l with
      | none => rw [hl] at h; cases h
      | some q =>
        rw [hl] at h
        cases h
        rw [List.length_cons, List.length_cons, paramsL_len l hl]
theorem readTypeL_len (s : Bytes) {r : Bytes × List (Bytes × Bytes)} (h : readTypeL s = some r) : r.2.length ≤ s.length + 1 := by
  have hb := scanL_bound s
  unfold readTypeL at h
  by_cases hz : (scanL [] .out s).2 = 0
  · rw [if_pos hz] at h
    have hq := (pcs_bound (scanL [] .out s).1 [] [] s.length (by simp only [List.length_nil]; omega) (by simp)).2
    generalize pcs [] [] (scanL [] .out s).1 = P at h hq
    cases P with
    | nil => cases h; simp
    | cons p l =>
      rw [typeL] at h
      by_cases hk : kindL p = true
      · rw [if_pos hk] at h
        cases hl : paramsL l with
        | none => rw [hl] at h; cases h
        | some q =>
          rw [hl] at h
          cases h
          have := paramsL_len l hl
          simp only [List.length_cons, List.length_nil] at hq
          show q.length ≤ _
          omega
      · rw [if_neg hk] at h; cases h
  · rw [if_neg hz] at h; cases h
end Go.Proofs.YtgaaogijfikfeaaDoor.Pl
set_option linter.unusedVariables false
set_option linter.unusedSimpArgs false
namespace Go.Proofs.YtgaaogijfikfeaaDoor.Pl
open Go.RowKit Go.Proofs.YtgaaogijfikfeaaDoorW.PrintWords Go.Proofs.YtgaaogijfikfeaaDoor.Fn

set_option maxRecDepth 100000 in
theorem foldB_47 (c : UInt8) : foldB c = 47 → c = 47 := forall_byte (p := fun c => foldB c = 47 → c = 47) (by decide +kernel) c
set_option maxRecDepth 100000 in
theorem foldB_61 (c : UInt8) : foldB c = 61 → c = 61 := forall_byte (p := fun c => foldB c = 61 → c = 61) (by decide +kernel) c
theorem fold_is_map (l : Bytes) : fold l = l.map foldB := by
  induction l with
  | nil => rfl
  | cons c l ih => rw [fold_cons, ih]; rfl
theorem fold_len (l : Bytes) : (fold l).length = l.length := by rw [fold_is_map, List.length_map]
theorem hasB_none {c : UInt8} : ∀ {l : Bytes}, c ∉ l → hasB c l = false
  | [], _ => rfl
  | b :: l, h => by
    simp only [List.mem_cons, not_or] at h
    have ih := hasB_none h.2
    unfold hasB at ih ⊢
    have h3 := of_decide_eq_false ih
    have h4 := Lib.indexByte_ge l c
    rw [Lib.indexByte, if_neg (by simpa using fun e => h.1 e.symm), if_pos (by simp only [beq_iff_eq]; omega)]
    rfl
theorem idx_no (c : UInt8) : ∀ (l : Bytes) (n : Nat), Lib.indexByte l c = (n : Int) → c ∉ l.take n
  | [], n, h => by simp
  | b :: l, n, h => by
    rw [Lib.indexByte] at h
    by_cases hb : (b == c) = true
    · rw [if_pos hb] at h
      obtain rfl : n = 0 := by omega
      simp
    · rw [if_neg hb] at h
      by_cases h2 : (Lib.indexByte l c == -1) = true
      · rw [if_pos h2] at h; omega
      · rw [if_neg h2] at h
        have h3 := Lib.indexByte_ge l c
        have h4 : Lib.indexByte l c ≠ -1 := by simpa using h2
        obtain ⟨m, rfl⟩ : ∃ m, n = m + 1 := ⟨n - 1, by omega⟩
        have ih := idx_no c l m (by omega)
        rw [List.take_succ_cons]
        simp only [List.mem_cons, not_or]
        exact ⟨fun e => hb (by simp [e]), ih⟩
theorem cutL_no {c : UInt8} {l : Bytes} (h : (cutL c l).2.2 = true) : c ∉ (cutL c l).1 := by
  unfold cutL at h ⊢
  by_cases hn : Lib.indexByte l c < 0
  · rw [if_pos hn] at h; cases h
  · rw [if_neg hn]
    exact idx_no c l _ (by omega)
theorem kind_fold {p : Bytes} (h : kindL p = true) : kindL (fold p) = true := by
  unfold kindL at h
  simp only [Bool.and_eq_true, Bool.not_eq_true'] at h
  obtain ⟨h1, h2, h3, h4, h5⟩ := h
  obtain ⟨e1, _⟩ := cutL_some h1
  have n1 := cutL_no h1
  have n2 := hasB_mem h4
  generalize (cutL 47 p).1 = a at *
  generalize (cutL 47 p).2.1 = b at *
  have ef : fold p = fold a ++ 47 :: fold b := by rw [e1, fold_app, fold_cons, show foldB 47 = 47 by decide +kernel]
  have m1 : (47 : UInt8) ∉ fold a := fun q => by
    rw [fold_is_map] at q
    obtain ⟨x, hx, hq⟩ := List.mem_map.1 q
    rw [foldB_47 x hq] at hx
    exact n1 hx
  have m2 : (47 : UInt8) ∉ fold b := fun q => by
    rw [fold_is_map] at q
    obtain ⟨x, hx, hq⟩ := List.mem_map.1 q
    rw [foldB_47 x hq] at hx
    exact n2 hx
  have ha : atomL (fold p) = true := by rw [atomL_fold]; exact h5
  unfold kindL
  rw [ha, ef, cutL_app 47 _ _ m1, hasB_none m2]
  cases a with
  | nil => simp at h2
  | cons c m =>
    cases b with
    | nil => simp at h3
    | cons c' m' => rfl
theorem param_good {p : Bytes} {x : Bytes × Bytes} (h : paramL p = some x) (ht : p.all text = true) : goodP x ∧ x.1.length + x.2.length ≤ p.length := by
  unfold paramL at h
  by_cases h1 : (cutL 61 p).2.2 = true
  · rw [if_pos h1] at h
    by_cases h2 : atomL (cutL 61 p).1 = true
    · rw [if_pos h2] at h
      cases h
      obtain ⟨e1, _⟩ := cutL_some h1
      have n1 := cutL_no h1
      generalize (cutL 61 p).1 = a at *
      generalize (cutL 61 p).2.1 = b at *
      have hl : p.length = a.length + (b.length + 1) := by rw [e1, List.length_append, List.length_cons]
      refine ⟨⟨by rw [atomL_fold]; exact h2, fun q => ?_, fold_idem a, ?_⟩, ?_⟩
      · rw [fold_is_map] at q
        obtain ⟨x, hx, hq⟩ := List.mem_map.1 q
        rw [foldB_61 x hq] at hx
        exact n1 hx
      · rw [e1, List.all_append, List.all_cons, Bool.and_eq_true, Bool.and_eq_true] at ht
        exact ht.2.2
      · show (fold a).length + b.length ≤ _
        rw [fold_len]; omega
    · rw [if_neg h2] at h; cases h
  · rw [if_neg h1] at h; cases h
theorem params_good : ∀ (l : List Bytes) {T : List (Bytes × Bytes)}, paramsL l = some T → (∀ p ∈ l, p.all text = true) → (∀ x ∈ T, goodP x) ∧ (T.flatMap par1).length ≤ 5 * T.length + 2 * (l.map List.length).sum ∧ ∀ m, (∀ p ∈ l, p.length ≤ m) → ∀ x ∈ T, x.1.length ≤ m ∧ x.2.length ≤ m
  | [], T, h, _ => by cases h; simp
  | p :: l, T, h, ht => by
    rw [paramsL] at h
    cases hp : paramL p with
    | none => rw [hp] at h; cases h
    | some x =>
      rw [hp, Option.bind_some] at h
      cases hl : paramsL l with
      | none => rw [hl] at h; cases h
      | some q =>
        rw [hl] at h
        cases h
        obtain ⟨i1, i2, i3⟩ := params_good l hl (fun y hy => ht y (by simp [hy]))
        obtain ⟨g1, g2⟩ := param_good hp (ht p (by simp))
        refine ⟨fun y hy => ?_, ?_, fun m hm y hy => ?_⟩
        · rcases List.mem_cons.1 hy with rfl | hy
          · exact g1
          · exact i1 y hy
        · rw [List.flatMap_cons, List.length_append, par1_len, List.map_cons, List.sum_cons, List.length_cons]
          have := wordV_len x.2
          omega
        · rcases List.mem_cons.1 hy with rfl | hy
          · have := hm p (by simp)
            omega
          · exact i3 m (fun z hz => hm z (by simp [hz])) y hy
theorem pcs_ne : ∀ (T : List Tok) (acc : List Bytes) (w : Bytes), pcs acc w T ≠ []
  | [], acc, w => by rw [pcs]; simp
  | t :: T, acc, w => by
    rw [pcs]
    split
    · exact pcs_ne T _ _
    · exact pcs_ne T _ _
theorem read_good {s d : Bytes} {T : List (Bytes × Bytes)} (h : readTypeL s = some (d, T)) : kindL d = true ∧ fold d = d ∧ (∀ x ∈ T, goodP x) ∧ (typeText d T).length ≤ 5 * T.length + 3 * s.length ∧ d.length ≤ s.length ∧ ∀ x ∈ T, x.1.length ≤ s.length ∧ x.2.length ≤ s.length := by
  have hb := scanL_bound s
  have htx : allT (scanL [] .out s).1 := scan_text s.length [] .out s (fun _ hx => by cases hx) rfl
  unfold readTypeL at h
  by_cases hz : (scanL [] .out s).2 = 0
  · rw [if_pos hz] at h
    have hq := (pcs_bound (scanL [] .out s).1 [] [] s.length (by simp only [List.length_nil]; omega) (by simp)).1
    have hs := pcs_sum (scanL [] .out s).1 [] []
    have ht := pcs_text (scanL [] .out s).1 [] [] htx (by simp) rfl
    have hne : pcs [] [] (scanL [] .out s).1 ≠ [] := pcs_ne _ _ _
    generalize pcs [] [] (scanL [] .out s).1 = P at h hq hs ht hne
    simp only [List.map_nil, List.sum_nil, List.length_nil] at hs
    cases P with
    | nil => exact absurd rfl hne
    | cons p l =>
      rw [typeL] at h
      by_cases hk : kindL p = true
      · rw [if_pos hk] at h
        cases hl : paramsL l with
        | none => rw [hl] at h; cases h
        | some q =>
          rw [hl] at h
          cases h
          obtain ⟨g1, g2, g3⟩ := params_good l hl (fun y hy => ht y (by simp [hy]))
          rw [List.map_cons, List.sum_cons] at hs
          have hp := hq p (by simp)
          refine ⟨kind_fold hk, fold_idem p, g1, ?_, by rw [fold_len]; exact hp, g3 s.length (fun y hy => hq y (by simp [hy]))⟩
          unfold typeText
          rw [List.length_append, fold_len]
          omega
      · rw [if_neg hk] at h; cases h
  · rw [if_neg hz] at h; cases h
theorem back_j1 (s : ByteArray) (hs : s.size ≤ 1000) (k : Nat) (hk : 5000000 ≤ k) : bulletinlaw20_MimeTypeBack.j1 (k + 1) s false = some true := by
  rw [bulletinlaw20_MimeTypeBack.j1, if_neg (by decide), readType_is s (by omega) k (by omega), Option.bind_some]
  cases hr : readTypeL (bs s) with
  | none =>
    rw [if_neg (show ¬ (resP none).2.2 = 0 from (by decide : ¬ (200 : Int) = 0)), if_pos (show (resP none).1.toList = [] from toList_str [])]
    rfl
  | some r =>
    obtain ⟨d, T⟩ := r
    obtain ⟨g1, g2, g3, g4, g5, g6⟩ := read_good hr
    have hl := readTypeL_len _ hr
    rw [bs_length] at hl g4 g5
    simp only [bs_length] at g6
    have hT : T.length ≤ 1001 := by have : T.length ≤ s.size + 1 := hl; omega
    have tx := text_is20 d (by omega) T (by omega) (fun x hx => by have := g6 x hx; omega) k (by omega)
    have rd := readType_is (str (typeText d T)) (by rw [str_size]; omega) k (by omega)
    rw [bs_str, type_back d T g1 g2 g3] at rd
    have c0 : (resP (some (d, T))).1 = str d := rfl
    have c1 : (resP (some (d, T))).2.1 = T.map par158 := rfl
    have c2 : (resP (some (d, T))).2.2 = 0 := rfl
    rw [if_pos c2, c0, c1, tx, Option.bind_some, rd, Option.bind_some, if_pos c2, c0, c1, if_pos rfl, tx, Option.bind_some, Option.bind_some, beq_self_eq_true]
theorem flat_bound (m : Nat) : ∀ T : List (Bytes × Bytes), (∀ x ∈ T, x.1.length ≤ m ∧ x.2.length ≤ m) → (T.flatMap par1).length ≤ T.length * (3 * m + 5)
  | [], _ => by simp
  | x :: T, h => by
    have ih := flat_bound m T (fun y hy => h y (by simp [hy]))
    have h1 := h x (by simp)
    have h2 := wordV_len x.2
    rw [List.flatMap_cons, List.length_append, par1_len, List.length_cons, Nat.add_mul, Nat.one_mul]
    omega
theorem MimeTypeBack (a0_0 : ByteArray) (l0_1 : List S154) (a1 : ByteArray) : ∃ k, bulletinlaw20_MimeTypeBack.f k a0_0 l0_1 a1 = some true := by
  refine ⟨10000000 + 1 + 1, ?_⟩
  generalize hk : (10000000 : Nat) = k
  have hw := works20 (k + 1 + 1) (by omega)
  unfold bulletinlaw20_MimeTypeBack.f
  obtain ⟨b, e, hb⟩ := light_l0 a0_0 l0_1 21 0 (k + 1 + 1) rfl (by omega)
  have e' : bulletinlaw20_light.f (k + 1 + 1) a0_0 l0_1 = some b := e
  have yes : bulletinlaw20_MimeTypeBack.j0 (k + 1 + 1) a1 true a0_0 l0_1 = some true := by rw [bulletinlaw20_MimeTypeBack.j0, if_pos rfl]
  rw [hw, Option.bind_some, if_pos rfl, e', Option.bind_some]
  cases b with
  | false => rw [if_neg (by decide)]; exact yes
  | true =>
    rw [if_pos rfl]
    by_cases hs : (a1.size : Int) > 1000
    · rw [decide_eq_true hs]; exact yes
    rw [decide_eq_false hs]
    obtain ⟨q1, q2, q3⟩ := hb rfl
    have hx : ∀ x ∈ l0_1.map of154, x.1.length ≤ 300 ∧ x.2.length ≤ 300 := by
      intro x hx
      obtain ⟨y, hy, rfl⟩ := List.mem_map.1 hx
      obtain ⟨j, hj, rfl⟩ := List.getElem_of_mem hy
      have := q3 j hj (Nat.zero_le _)
      show (bs l0_1[j].f0).length ≤ _ ∧ (bs l0_1[j].f1).length ≤ _
      rw [bs_length, bs_length]
      omega
    have hT : (l0_1.map of154).length ≤ 20 := by rw [List.length_map]; exact q1
    have eL := par154_of l0_1
    generalize l0_1.map of154 = T at hx hT eL
    subst eL
    obtain ⟨d, rfl⟩ : ∃ d, a0_0 = str d := ⟨bs a0_0, (str_bs a0_0).symm⟩
    rw [str_size] at q2
    have hfl := flat_bound 300 T hx
    have htl : (typeText d T).length ≤ 20000 := by
      unfold typeText
      rw [List.length_append]
      have : T.length * (3 * 300 + 5) ≤ 20 * 905 := Nat.mul_le_mul hT (by decide)
      omega
    have tx := text_is20 d (by omega) T (by omega) (fun x h => by have := hx x h; omega) (k + 1) (by omega)
    have rd := readType_is (str (typeText d T)) (by rw [str_size]; omega) (k + 1) (by omega)
    rw [bs_str] at rd
    obtain ⟨b, eb, hgood⟩ := refRightType_is d (by omega) T hT (fun x h => by have := hx x h; omega) (k + 1) (by omega)
    have fin := back_j1 a1 (by omega) k (by omega)
    rw [bulletinlaw20_MimeTypeBack.j0, if_neg (by decide), to20_is (str d) T (by omega) (k + 1) (by omega), Option.bind_some, tx, Option.bind_some, rd, Option.bind_some, eb, Option.bind_some]
    cases b with
    | false => rw [if_neg (by decide)]; exact fin
    | true =>
      obtain ⟨g1, g2, g3⟩ := hgood rfl
      rw [type_back d T g1 g2 g3]
      have c0 : (resP (some (d, T))).1 = str d := rfl
      have c1 : (resP (some (d, T))).2.1 = T.map par158 := rfl
      have c2 : (resP (some (d, T))).2.2 = 0 := rfl
      rw [if_pos rfl, if_pos c2, c0, c1, same20_is (str d) T (by omega) (k + 1) (by omega), Option.bind_some]
      exact fin
end Go.Proofs.YtgaaogijfikfeaaDoor.Pl
set_option linter.unusedVariables false
namespace Go.Proofs.YtgaaogijfikfeaaDoor.Fn
open Go.RowKit Go.ChangeShapes Go.WideShapes Go.Proofs.YtgaaogijfikfeaaDoorW.PrintWords

/-! A slice of fields (two texts each) that came in. -/
def strOf : Value → ByteArray | .string s => s | _ => ByteArray.empty
end Go.Proofs.YtgaaogijfikfeaaDoor.Fn
set_option linter.unusedVariables false
namespace Go.Proofs.YtgaaogijfikfeaaDoor.Fn
open Go.RowKit Go.ChangeShapes Go.WideShapes Go.Proofs.YtgaaogijfikfeaaDoorW.PrintWords

/-! A slice of parameters (two texts each) that came in. -/
theorem open_params {H : Type} {enc : TypeId × Value → H} {w : World} {base : Nat} {spare : Nat → Bool} {held : Bool} {fuel : Nat} {v : Value} {x : DataW H × List MemPlace}
    (h : DataW.trod enc Tryd.prog w base spare held fuel 85 [v] = some x) :
    ∃ (A : Option Addr) (c : Nat) (l : List (S154)), v = .slice A l.length c ∧ l.length ≤ c ∧ c ≤ maxLen ∧ Kd.C k154 w A l.length l := by
  rcases Go.Deep.open_slice_pairs Tryd.underlying85 Tryd.underlying154 (by kernel_rfl) rfl rfl (by kernel_rfl) (by kernel_rfl) h with ⟨h0, _⟩ | ⟨a, len, cap, m, n, V0, V1, D0, D1, P0, P1, hv, hb, hl, hm, hmm, _, hx⟩
  · refine ⟨none, 0, [], ?_, Nat.le_refl _, Nat.zero_le _, ?_⟩
    · simpa using h0
    · exact ⟨rfl, by simp, fun h => absurd h (by simp)⟩
  · have hlm : len ≤ m := by rw [hmm]; split <;> omega
    have s0 : ∀ i, i < len → V0 i = .string (strOf (V0 i)) := fun i hi => by
      obtain ⟨_, _, g, _⟩ := hx i (by omega)
      obtain ⟨s, e, _⟩ := DataW.trod_string Tryd.underlying9 g
      simp only [List.cons.injEq, and_true] at e
      rw [e]; rfl
    have s1 : ∀ i, i < len → V1 i = .string (strOf (V1 i)) := fun i hi => by
      obtain ⟨_, _, _, g⟩ := hx i (by omega)
      obtain ⟨s, e, _⟩ := DataW.trod_string Tryd.underlying9 g
      simp only [List.cons.injEq, and_true] at e
      rw [e]; rfl
    have hlen : ((List.range len).map fun i => (⟨strOf (V0 i), strOf (V1 i)⟩ : S154)).length = len := by simp
    refine ⟨some a, cap, (List.range len).map fun i => ⟨strOf (V0 i), strOf (V1 i)⟩, ?_, by rw [hlen]; exact hl, hm, ?_⟩
    · rw [hlen]; simpa using hv
    · rw [hlen]
      refine ⟨hlen, by unfold maxLen at hm; omega, fun h0 => ⟨a, rfl, fun j p hp => ?_⟩⟩
      have hj : j < len := by
        have := (List.getElem?_eq_some_iff.1 hp).1
        rwa [hlen] at this
      have hp' : p = ⟨strOf (V0 j), strOf (V1 j)⟩ := by
        rw [List.getElem?_map, List.getElem?_range hj] at hp
        exact (Option.some.inj hp).symm
      subst hp'
      obtain ⟨g0, g1, _, _⟩ := hx j (by omega)
      rw [s0 j hj] at g0
      rw [s1 j hj] at g1
      refine ⟨[.string (strOf (V0 j)), .string (strOf (V1 j))], rfl, k154_mk w _, fun i u hu => ?_⟩
      match i, hu with
      | 0, hu => obtain rfl := Option.some.inj hu; exact g0
      | 1, hu => obtain rfl := Option.some.inj hu; exact g1
      | i + 2, hu => simp at hu
end Go.Proofs.YtgaaogijfikfeaaDoor.Fn
