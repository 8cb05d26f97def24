/- A part of the proof of this sentence: the tables of unicode/utf8 are as the program's text lays them. -/
import Derived.Test.YtoikneogdbdplaaDoorCMimeTypes5
import Derived.Deep.SlicePairs
import Derived.ProofKit
import Derived.OpenShut
set_option linter.unusedVariables false
set_option linter.unusedSimpArgs false
namespace Go.Proofs.YtoikneogdbdplaaDoor.Pl
open Go.RowKit Go.Proofs.YtoikneogdbdplaaDoorW.PrintWords Go.Proofs.YtoikneogdbdplaaDoor.Fn

/-! Layer 20, the document's: a body's type; it answers as the program does. -/
theorem idx_app (c : UInt8) : ∀ (l : Bytes) (n : Nat), Lib.indexByte l c = (n : Int) → l = l.take n ++ c :: l.drop (n + 1)
  | [], n, h => by simp [Lib.indexByte] at h
  | b :: l, n, h => by
    rw [Lib.indexByte] at h
    by_cases hb : (b == c) = true
    · rw [if_pos hb] at h
      obtain rfl : n = 0 := by omega
      simpa using hb
    · rw [if_neg hb] at h
      by_cases h2 : (Lib.indexByte l c == -1) = true
      · rw [if_pos h2] at h; omega
      · rw [if_neg h2] at h
        have h3 := Lib.indexByte_ge l c
        have h4 : Lib.indexByte l c ≠ -1 := by simpa using h2
        obtain ⟨m, rfl⟩ : ∃ m, n = m + 1 := ⟨n - 1, by omega⟩
        have ih := idx_app c l m (by omega)
        rw [List.take_succ_cons, List.drop_succ_cons, List.cons_append, ← ih]
theorem cutL_some {c : UInt8} {l : Bytes} (h : (cutL c l).2.2 = true) : l = (cutL c l).1 ++ c :: (cutL c l).2.1 ∧ splitL c l = (cutL c l).1 :: splitL c (cutL c l).2.1 := by
  unfold cutL at h ⊢
  by_cases hn : Lib.indexByte l c < 0
  · rw [if_pos hn] at h; cases h
  · rw [if_neg hn]
    exact ⟨idx_app c l _ (by omega), indexByte_nat c l _ (by omega)⟩
theorem cutL_none {c : UInt8} {l : Bytes} (h : (cutL c l).2.2 = false) : cutL c l = (l, [], false) ∧ splitL c l = [l] := by
  unfold cutL at h ⊢
  by_cases hn : Lib.indexByte l c < 0
  · rw [if_pos hn]
    exact ⟨rfl, indexByte_neg c l hn⟩
  · rw [if_neg hn] at h; cases h
theorem hasB_len (c : UInt8) (l : Bytes) : hasB c l = decide (2 ≤ (splitL c l).length) := by
  unfold hasB
  by_cases hn : Lib.indexByte l c < 0
  · rw [indexByte_neg c l hn]
    simp; omega
  · rw [indexByte_nat c l (Lib.indexByte l c).toNat (by omega)]
    have := List.length_pos_iff.2 (splitL_ne c (l.drop ((Lib.indexByte l c).toNat + 1)))
    simp only [List.length_cons]
    rw [decide_eq_true (by omega), decide_eq_true (by omega)]
theorem hasB_mem {c : UInt8} : ∀ {l : Bytes}, hasB c l = false → c ∉ l
  | [], _ => by simp
  | b :: l, h => by
    unfold hasB at h
    rw [Lib.indexByte] at h
    by_cases hb : (b == c) = true
    · rw [if_pos hb] at h; simp at h
    · rw [if_neg hb] at h
      have h3 := Lib.indexByte_ge l c
      have hl : hasB c l = false := by
        unfold hasB
        by_cases h2 : (Lib.indexByte l c == -1) = true
        · have h4 : Lib.indexByte l c = -1 := by simpa using h2
          rw [h4]; rfl
        · rw [if_neg h2] at h
          have h4 : Lib.indexByte l c ≠ -1 := by simpa using h2
          have := of_decide_eq_false h
          omega
      have ih := hasB_mem hl
      simp only [List.mem_cons, not_or]
      exact ⟨fun e => hb (by simp [e]), ih⟩
theorem ref13split_is (s : ByteArray) (hs : s.size ≤ 1000000000) (c : UInt8) (k : Nat) (hk : s.size + 1 ≤ k) : bulletinref13_Split.f k s (c.toNat : Int) = some ((splitL c (bs s)).map str) := by
  have := refSplit_l0 s hs c (bs s) 0 k [] [] (by simp) (by omega) (by rw [bs_length]; omega) (by simp) (by simp)
  rw [headJoin_nil _ (splitL_ne _ _)] at this
  unfold bulletinref13_Split.f
  exact this
theorem refhas_is (s : ByteArray) (hs : s.size ≤ 1000000) (c : UInt8) (k : Nat) (hk : s.size + 1 ≤ k) : bulletinref20_has.f k s (c.toNat : Int) = some (((splitL c (bs s)).length - 1 : Nat) : Int) := by
  unfold bulletinref20_has.f
  have h1 := List.length_pos_iff.2 (splitL_ne c (bs s))
  have h2 := splitL_length c (bs s)
  rw [bs_length] at h2
  rw [ref13split_is s (by omega) c k hk, Option.bind_some, List.length_map, wrap_id (by omega) (by omega)]
  congr 1
  omega
theorem refhas47 (s : ByteArray) (hs : s.size ≤ 1000000) (k : Nat) (hk : s.size + 1 ≤ k) : bulletinref20_has.f k s 47 = some (((splitL 47 (bs s)).length - 1 : Nat) : Int) := refhas_is s hs 47 k hk
theorem refhas61 (s : ByteArray) (hs : s.size ≤ 1000000) (k : Nat) (hk : s.size + 1 ≤ k) : bulletinref20_has.f k s 61 = some (((splitL 61 (bs s)).length - 1 : Nat) : Int) := refhas_is s hs 61 k hk
theorem refhas63 (s : ByteArray) (hs : s.size ≤ 1000000) (k : Nat) (hk : s.size + 1 ≤ k) : bulletinref20_has.f k s 63 = some (((splitL 63 (bs s)).length - 1 : Nat) : Int) := refhas_is s hs 63 k hk
def par154 (x : Bytes × Bytes) : S97 := ⟨str x.1, str x.2⟩
def resR : Option (Bytes × List (Bytes × Bytes)) → ByteArray × List S97 × Bool
  | none => (str [], [], false)
  | some r => (str r.1, r.2.map par154, true)
theorem take_of_app {p a b : Bytes} {c : UInt8} (h : p = a ++ c :: b) : p.take a.length = a := by
  subst h; simp
theorem drop_of_app {p a b : Bytes} {c : UInt8} (h : p = a ++ c :: b) : p.drop (a.length + 1) = b := by
  subst h
  rw [← List.drop_drop, List.drop_left]; rfl
theorem refT_l1 (P : List Bytes) (hP : P.length ≤ 1000000) (hx : ∀ x ∈ P, x.length ≤ 1000000) (d : Bytes) : ∀ (r : List Bytes) (i k : Nat) (out : List (Bytes × Bytes)), P.drop (i + 1) = r → r.length + 1000100 ≤ k → out.length ≤ i →
    bulletinref20_ReadType.l1 k (P.map str) ((i + 1 : Nat) : Int) (str d) (out.map par154) = some (resR ((paramsL r).bind fun q => some (d, out ++ q)))
  | [], i, k, out, hd, hk, ho => by
    obtain ⟨k, rfl⟩ : ∃ j, k = j + 1 := ⟨k - 1, by omega⟩
    have : P.length ≤ i + 1 := by
      have := congrArg List.length hd
      rw [List.length_drop, List.length_nil] at this; omega
    rw [bulletinref20_ReadType.l1, if_neg (by rw [List.length_map]; omega)]
    simp [paramsL, resR]
  | p :: r, i, k, out, hd, hk, ho => by
    obtain ⟨k, rfl⟩ : ∃ j, k = j + 1 := ⟨k - 1, by omega⟩
    obtain ⟨h1, h2⟩ := dropS_lt hd
    simp only [List.length_cons] at hk
    have hp : p.length ≤ 1000000 := hx p (List.mem_of_mem_drop (by rw [hd]; simp))
    have hl := cutL_len 61 p
    have hsp : bulletinref13_Split.f k (str p) 61 = some ((splitL 61 p).map str) := by
      have := ref13split_is (str p) (by rw [str_size]; omega) 61 k (by rw [str_size]; omega)
      rw [bs_str] at this
      exact this
    rw [bulletinref20_ReadType.l1, if_pos (by rw [List.length_map]; omega), if_pos (by omega), rdS_drop hd, hsp, Option.bind_some, paramsL, paramL]
    cases h3 : (cutL 61 p).2.2 with
    | false =>
      obtain ⟨_, e2⟩ := cutL_none h3
      have hrd : rdOf ByteArray.empty ([p].map str) 0 = str p := rfl
      rw [e2, hrd, if_pos (by simp), if_pos rfl, if_neg (by decide)]
      rfl
    | true =>
      obtain ⟨e1, e2⟩ := cutL_some h3
      have hrd : ∀ q : List Bytes, rdOf ByteArray.empty (((cutL 61 p).1 :: q).map str) 0 = str (cutL 61 p).1 := fun _ => rfl
      have hlen := congrArg List.length e1
      rw [List.length_append, List.length_cons] at hlen
      have ext1 : (str p).extract 0 (((cutL 61 p).1.length : Int)).toNat = str (cutL 61 p).1 := by
        apply bs_inj
        rw [bs_extract, bs_str, bs_str, Int.toNat_natCast, List.drop_zero]
        exact take_of_app e1
      have ext2 : (str p).extract ((((cutL 61 p).1.length + 1 : Nat) : Int)).toNat (str p).size = str (cutL 61 p).2.1 := by
        apply bs_inj
        rw [bs_extract, bs_str, bs_str, Int.toNat_natCast, List.take_of_length_le (by rw [str_size]; exact Nat.le_refl _)]
        exact drop_of_app e1
      rw [e2, hrd, if_pos (by simp), str_size, if_neg (by rw [str_size]; omega), if_pos (by omega), if_pos (by rw [str_size]; omega), ext1,
        refIsAtom_is _ (by rw [str_size]; omega) k (by rw [str_size]; omega), Option.bind_some, bs_str, if_pos rfl]
      cases h4 : atomL (cutL 61 p).1 with
      | false => rw [if_neg (by decide), if_neg (by decide)]; rfl
      | true =>
        rw [if_pos rfl, if_pos rfl, ref_fold _ (by rw [str_size]; omega) k (by rw [str_size]; omega), Option.bind_some, bs_str, wrap_succ (cutL 61 p).1.length (by omega), if_pos (by omega), if_pos (by rw [str_size]; omega),
          if_pos (by rw [List.length_map]; omega), ext2, wrap_succ (i + 1) (by omega)]
        have := refT_l1 P hP hx d r (i + 1) k (out ++ [(fold (cutL 61 p).1, (cutL 61 p).2.1)]) h2 (by omega) (by simp; omega)
        rw [List.map_append, List.map_cons, List.map_nil] at this
        refine Eq.trans this ?_
        cases paramsL r <;> simp
theorem kind_is (p : Bytes) (ha : atomL p = true) (hc : (splitL 47 p).length = 2) : ∃ c m x n, p = c :: m ∧ p = n ++ [x] ∧ kindL p = (!(c == 47 || x == 47)) := by
  have h3 : (cutL 47 p).2.2 = true := by
    cases h3 : (cutL 47 p).2.2 with
    | true => rfl
    | false => rw [(cutL_none h3).2] at hc; cases hc
  obtain ⟨e1, e2⟩ := cutL_some h3
  rw [e2, List.length_cons] at hc
  have hb : hasB 47 (cutL 47 p).2.1 = false := by
    rw [hasB_len]
    exact decide_eq_false (by omega)
  have hm := hasB_mem hb
  have h47 : hasB 47 p = true := by
    rw [hasB_len, e2, List.length_cons]
    exact decide_eq_true (by omega)
  have hk : kindL p = (!(cutL 47 p).1.isEmpty && !(cutL 47 p).2.1.isEmpty) := by
    unfold kindL
    rw [h3, hb, ha]
    simp
  have hfirst : ∀ y r, (cutL 47 p).1 = y :: r → y ≠ 47 := by
    intro y r hy hq
    subst hq
    rw [hy] at e1
    have : splitL 47 p = [] :: splitL 47 (r ++ 47 :: (cutL 47 p).2.1) := by
      conv => lhs; rw [e1]
      rw [List.cons_append, splitL, if_pos rfl]
    rw [e2, hy] at this
    cases this
  rw [hk]
  generalize (cutL 47 p).1 = a at *
  generalize (cutL 47 p).2.1 = b at *
  rcases List.eq_nil_or_concat b with rfl | ⟨b', x, rfl⟩
  · cases a with
    | nil => exact ⟨47, [], 47, [], by simpa using e1, by simpa using e1, rfl⟩
    | cons c m => exact ⟨c, m ++ [47], 47, c :: m, by simpa using e1, by simpa using e1, by simp⟩
  · have hx : x ≠ 47 := fun q => hm (by simp [q])
    cases a with
    | nil => exact ⟨47, b' ++ [x], x, 47 :: b', by simpa using e1, by simpa using e1, by simp⟩
    | cons c m =>
      have hc47 := hfirst c m rfl
      exact ⟨c, m ++ 47 :: (b' ++ [x]), x, c :: m ++ 47 :: b', by simpa using e1, by simpa using e1, by rw [show (c == 47) = false by simpa using hc47, show (x == 47) = false by simpa using hx]; simp⟩
theorem kind_not (p : Bytes) (h : atomL p = false ∨ (splitL 47 p).length ≠ 2) : kindL p = false := by
  unfold kindL
  cases h3 : (cutL 47 p).2.2 with
  | false => rfl
  | true =>
    obtain ⟨e1, e2⟩ := cutL_some h3
    rcases h with h | h
    · rw [h]; simp
    · rw [e2, List.length_cons] at h
      have h1 := List.length_pos_iff.2 (splitL_ne 47 (cutL 47 p).2.1)
      have hb : hasB 47 (cutL 47 p).2.1 = true := by rw [hasB_len]; exact decide_eq_true (by omega)
      rw [hb]; simp
theorem refT_end (acc : List Bytes) (w : Bytes) (hP : (acc ++ [w]).length ≤ 100000) (hx : ∀ x ∈ acc ++ [w], x.length ≤ 100000) (T : List S109) (k : Nat) (hk : 2000000 ≤ k) :
    bulletinref20_ReadType.l0 (k + 1) T (acc.map str) (str w) (T.length : Int) = some (resR (typeL (acc ++ [w]))) := by
  have hlen : (acc ++ [w]).length = acc.length + 1 := by simp
  have e0 : acc.map str ++ [str w] = (acc ++ [w]).map str := by simp
  rw [bulletinref20_ReadType.l0, if_neg (by omega), if_pos (by rw [List.length_map]; omega), Option.bind_some, e0, if_pos (by rw [List.length_map]; omega)]
  generalize acc ++ [w] = P at *
  cases P with
  | nil => simp at hlen
  | cons p r =>
    have hp := hx p (by simp)
    have hrd : rdOf ByteArray.empty ((p :: r).map str) 0 = str p := rfl
    have hsz := str_size p
    obtain ⟨k, rfl⟩ : ∃ j, k = j + 1 := ⟨k - 1, by omega⟩
    rw [hrd, refIsAtom_is _ (by omega) (k + 1) (by omega), Option.bind_some, bs_str, typeL]
    have no : bulletinref20_ReadType.j1 (k + 1) ((p :: r).map str) (str p) true = some (resR none) := by rw [bulletinref20_ReadType.j1, if_pos rfl]; rfl
    by_cases ha : atomL p = true
    · rw [ha, if_pos rfl, refhas47 _ (by omega) (k + 1) (by omega), Option.bind_some, bs_str]
      have h1 := List.length_pos_iff.2 (splitL_ne 47 p)
      by_cases hc : (splitL 47 p).length = 2
      · obtain ⟨c, m, x, n, ep, en, hK⟩ := kind_is p ha hc
        have hb0 : bt (str p) 0 = (c.toNat : Int) := bt_drop (i := 0) (r := m) (by rw [bs_str]; exact ep)
        have hnl : p.length = n.length + 1 := by rw [en]; simp
        have hbn : bt (str p) (n.length : Int) = (x.toNat : Int) := bt_drop (i := n.length) (r := []) (by rw [bs_str, en]; simp)
        have hwe : ((str p).size : Int) - 1 = (n.length : Int) := by omega
        have ec : ((c.toNat : Int) = 47) = (c = 47) := byte_eq c 47 (by decide)
        have ex : ((x.toNat : Int) == 47) = (x == 47) := beq_byte x 47 (by decide)
        rw [if_pos (by omega), if_pos (by omega), hb0]
        by_cases hcc : c = 47
        · rw [if_pos (by rw [ec]; exact hcc), no, hK, if_neg (by simp [hcc])]
        · rw [if_neg (by rw [ec]; exact hcc), hwe, wrap_id (x := (n.length : Int)) (by omega) (by omega), if_pos (by omega), if_pos (by omega), hbn, ex]
          by_cases hxx : x = 47
          · rw [show (x == 47) = true by simpa using hxx, no, hK, if_neg (by simp [hxx])]
          · have hK2 : kindL p = true := by rw [hK, show (c == 47) = false by simpa using hcc, show (x == 47) = false by simpa using hxx]; rfl
            rw [show (x == 47) = false by simpa using hxx, bulletinref20_ReadType.j1, if_neg (by decide), ref_fold _ (by omega) k (by omega), Option.bind_some, bs_str, hK2, if_pos rfl]
            have := refT_l1 (p :: r) (by simp only [List.length_cons] at hlen hP ⊢; omega) (fun x hq => by have := hx x hq; omega) (fold p) r 0 k [] rfl (by simp only [List.length_cons] at hP; omega) (by simp)
            simp only [List.nil_append] at this
            exact this
      · rw [if_neg (by omega), no, kind_not p (.inr hc), if_neg (by decide)]
    · rw [if_neg ha, no, kind_not p (.inl (by simpa using ha)), if_neg (by decide)]
theorem refT_l0 (T : List Tok) (hT : T.length ≤ 50000) : ∀ (r : List Tok) (i k : Nat) (acc : List Bytes) (w : Bytes), T.drop i = r → i ≤ T.length → r.length + 2000010 ≤ k → acc.length ≤ i → w.length + (cat r).length ≤ 50000 → (∀ x ∈ acc, x.length ≤ 50000) →
    bulletinref20_ReadType.l0 k (T.map tok148) (acc.map str) (str w) (i : Int) = some (resR (typeL (pcs acc w r)))
  | [], i, k, acc, w, hd, hi, hk, ha, hw, hx => by
    obtain ⟨k, rfl⟩ : ∃ j, k = j + 1 := ⟨k - 1, by omega⟩
    have : T.length ≤ i := by
      have := congrArg List.length hd
      rw [List.length_drop, List.length_nil] at this; omega
    have := refT_end acc w (by simp; omega) (fun x hq => by
      rcases List.mem_append.1 hq with h1 | h1
      · have := hx x h1; omega
      · rw [List.mem_singleton.1 h1]; omega) (T.map tok148) k (by omega)
    rw [List.length_map, show T.length = i by omega] at this
    exact this
  | t :: r, i, k, acc, w, hd, hi, hk, ha, hw, hx => by
    obtain ⟨k, rfl⟩ : ∃ j, k = j + 1 := ⟨k - 1, by omega⟩
    obtain ⟨h1, h2⟩ := dropS_lt hd
    simp only [List.length_cons] at hk
    have hc : (cat (t :: r)).length = t.2.length + (cat r).length := by simp [cat]
    rw [bulletinref20_ReadType.l0, if_pos (by rw [List.length_map]; omega), if_pos (by omega), rd148 hd]
    have f0 : (tok148 t).f0 = t.1 := rfl
    have f1 : (tok148 t).f1 = str t.2 := rfl
    rw [f0, f1, toList_str, pcs]
    have go : bulletinref20_ReadType.l0 k (T.map tok148) (acc.map str) (str (w ++ t.2)) ((i + 1 : Nat) : Int) = some (resR (typeL (pcs acc (w ++ t.2) r))) :=
      refT_l0 T hT r (i + 1) k acc (w ++ t.2) h2 (by omega) (by omega) (by omega) (by rw [List.length_append]; omega) hx
    have gd : (str w).size + (str t.2).size ≤ 9223372036854775807 := by rw [str_size, str_size]; omega
    by_cases h3 : t.1 = 3
    · by_cases h4 : t.2 = [59]
      · have hq : isT t [59] = true := by unfold isT; rw [h3, h4]; rfl
        rw [if_pos h3, if_pos h4, if_pos (by rw [List.length_map]; omega), if_pos hq, wrap_succ i (by omega)]
        have := refT_l0 T hT r (i + 1) k (acc ++ [w]) [] h2 (by omega) (by omega) (by simp; omega) (by simp only [List.length_nil]; omega) (fun x hz => by
          rcases List.mem_append.1 hz with h1 | h1
          · exact hx x h1
          · rw [List.mem_singleton.1 h1]; omega)
        rw [List.map_append, List.map_cons, List.map_nil] at this
        exact this
      · have hq : ¬ isT t [59] = true := by unfold isT; simp [h4]
        rw [if_pos h3, if_neg h4, if_pos gd, if_neg hq, wrap_succ i (by omega), str_app, go]
    · have hq : ¬ isT t [59] = true := by unfold isT; simp [h3]
      rw [if_neg h3, if_pos gd, if_neg hq, wrap_succ i (by omega), str_app, go]
theorem refReadType_is (s : ByteArray) (hs : s.size ≤ 50000) (k : Nat) (hk : 3000000 ≤ k) : bulletinref20_ReadType.f k s = some (resR (readTypeL (bs s))) := by
  have hb := scanL_bound (bs s)
  rw [bs_length] at hb
  unfold bulletinref20_ReadType.f readTypeL
  rw [refScan_is s (by omega) k (by omega), Option.bind_some]
  unfold res148
  by_cases hz : (scanL [] .out (bs s)).2 = 0
  · rw [if_pos hz, if_pos hz]
    exact refT_l0 _ (by omega) _ 0 k [] [] rfl (by omega) (by omega) (by simp) (by simp only [List.length_nil]; omega) (by simp)
  · rw [if_neg hz, if_neg hz]; rfl
theorem rd154_drop {l : List (Bytes × Bytes)} {i : Nat} {t : Bytes × Bytes} {r : List (Bytes × Bytes)} (h : l.drop i = t :: r) : rd_T97 (l.map par154) (i : Int) = par154 t := by
  have h1 : l[i]? = some t := by
    have := congrArg List.head? h
    rw [List.head?_drop] at this
    exact this
  unfold rd_T97
  rw [List.getD_eq_getElem?_getD, List.getElem?_map]
  simp [h1]
theorem refvalue_l0 (T : List (Bytes × Bytes)) (hT : T.length ≤ 1000000) (n d : ByteArray) (hn : n.size ≤ 1000000) : ∀ (r : List (Bytes × Bytes)) (i k : Nat), T.drop i = r → r.length + 1000010 ≤ k →
    bulletinref20_Value.l0 k n (i : Int) d (T.map par154) = some (resV (valueL r (bs n)))
  | [], i, k, hd, hk => by
    obtain ⟨k, rfl⟩ : ∃ j, k = j + 1 := ⟨k - 1, by omega⟩
    have : T.length ≤ i := by
      have := congrArg List.length hd
      rw [List.length_drop, List.length_nil] at this; omega
    rw [bulletinref20_Value.l0, if_neg (by rw [List.length_map]; omega)]
    rfl
  | t :: r, i, k, hd, hk => by
    obtain ⟨k, rfl⟩ : ∃ j, k = j + 1 := ⟨k - 1, by omega⟩
    obtain ⟨h1, h2⟩ := dropS_lt hd
    simp only [List.length_cons] at hk
    rw [bulletinref20_Value.l0, if_pos (by rw [List.length_map]; omega), if_pos (by omega), ref_fold n (by omega) k (by omega), Option.bind_some, rd154_drop hd]
    show (if (str t.1).toList = (str (fold (bs n))).toList then _ else _) = _
    rw [toList_str, toList_str]
    unfold valueL
    by_cases he : t.1 = fold (bs n)
    · rw [if_pos he, List.find?_cons_of_pos (by simpa using he)]; rfl
    · rw [if_neg he, List.find?_cons_of_neg (by simpa using he), wrap_succ i (by omega)]
      exact refvalue_l0 T hT n d hn r (i + 1) k h2 (by omega)
theorem refvalue_is (d : ByteArray) (T : List (Bytes × Bytes)) (hT : T.length ≤ 1000000) (n : ByteArray) (hn : n.size ≤ 1000000) (k : Nat) (hk : T.length + 1000010 ≤ k) : bulletinref20_Value.f k d (T.map par154) n = some (resV (valueL T (bs n))) :=
  refvalue_l0 T hT n d hn T 0 k rfl hk
end Go.Proofs.YtoikneogdbdplaaDoor.Pl
set_option linter.unusedVariables false
set_option linter.unusedSimpArgs false
namespace Go.Proofs.YtoikneogdbdplaaDoor.Pl
open Go.RowKit Go.Proofs.YtoikneogdbdplaaDoorW.PrintWords Go.Proofs.YtoikneogdbdplaaDoor.Fn

/-! Layer 20, the document's: a type as text. -/
theorem wrap_add (a b : Nat) (h : a + b ≤ 1000000000) : wrap64 ((a : Int) + (b : Int)) = ((a + b : Nat) : Int) := by
  rw [wrap_id (by omega) (by omega)]
  omega
theorem reftext_l0 (d : ByteArray) (T : List (Bytes × Bytes)) (hT : T.length ≤ 1000000) (hx : ∀ x ∈ T, x.1.length ≤ 1000000 ∧ x.2.length ≤ 1000000) : ∀ (r : List (Bytes × Bytes)) (i k : Nat) (s : Bytes), T.drop i = r → r.length + 2000030 ≤ k → s.length ≤ 1000000 + i * 4000000 →
    bulletinref20_Text.l0 k (str s) (i : Int) d (T.map par154) = some (str (s ++ r.flatMap par1)) := by
  intro r
  induction r with
  | nil =>
    intro i k s hd hk hz
    obtain ⟨k, rfl⟩ : ∃ j, k = j + 1 := ⟨k - 1, by omega⟩
    have : T.length ≤ i := by
      have := congrArg List.length hd
      rw [List.length_drop, List.length_nil] at this; omega
    rw [bulletinref20_Text.l0, if_neg (by rw [List.length_map]; omega)]
    simp
  | cons t r ih =>
    intro i k s hd hk hz
    obtain ⟨k, rfl⟩ : ∃ j, k = j + 1 := ⟨k - 1, by omega⟩
    obtain ⟨h1, h2⟩ := dropS_lt hd
    simp only [List.length_cons] at hk
    obtain ⟨hp1, hp2⟩ := hx t (List.mem_of_mem_drop (by rw [hd]; simp))
    have hwl := wordV_len t.2
    have hpl := par1_len t
    have f0 : (par154 t).f0 = str t.1 := rfl
    have f1 : (par154 t).f1 = str t.2 := rfl
    have e1 : (⟨#[59, 32]⟩ : ByteArray) = str [59, 32] := rfl
    have e2 : (⟨#[61]⟩ : ByteArray) = str [61] := rfl
    have z1 : (str s).size + 2 ≤ 9223372036854775807 := by rw [str_size]; omega
    have z2 : (str (s ++ [59, 32])).size + (str t.1).size ≤ 9223372036854775807 := by rw [str_size, str_size, List.length_append]; simp only [List.length_cons, List.length_nil]; omega
    have z3 : (str (s ++ [59, 32] ++ t.1)).size + 1 ≤ 9223372036854775807 := by simp only [str_size, List.length_append, List.length_cons, List.length_nil]; omega
    have z4 : ∀ v : Bytes, v.length ≤ 2000002 → (str (s ++ [59, 32] ++ t.1 ++ [61])).size + (str v).size ≤ 9223372036854775807 := by
      intro v hv
      simp only [str_size, List.length_append, List.length_cons, List.length_nil]; omega
    have last : bulletinref20_Text.l0 k (str (s ++ [59, 32] ++ t.1 ++ [61] ++ wordV t.2)) ((i + 1 : Nat) : Int) d (T.map par154) = some (str (s ++ (t :: r).flatMap par1)) := by
      have := ih (i + 1) k (s ++ par1 t) h2 (by omega) (by rw [List.length_append]; omega)
      rw [show s ++ [59, 32] ++ t.1 ++ [61] ++ wordV t.2 = s ++ par1 t by unfold par1; simp, this, List.flatMap_cons, List.append_assoc]
    rw [bulletinref20_Text.l0, if_pos (by rw [List.length_map]; omega), if_pos (by omega), rd154_drop hd, f0, f1, e1, e2,
      refIsAtom_is _ (by rw [str_size]; omega) k (by rw [str_size]; omega), Option.bind_some, bs_str]
    simp only [str_app]
    have hq := refQuote_is (str t.2) (by rw [str_size]; omega) k (by rw [str_size]; omega)
    rw [bs_str] at hq
    rw [wrap_succ i (by omega)]
    have l61 := List.length_pos_iff.2 (splitL_ne 61 t.2)
    have l47 := List.length_pos_iff.2 (splitL_ne 47 t.2)
    have l63 := List.length_pos_iff.2 (splitL_ne 63 t.2)
    have m61 := splitL_length 61 t.2
    have m47 := splitL_length 47 t.2
    have m63 := splitL_length 63 t.2
    by_cases ha : atomL t.2 = true
    · rw [if_pos ha, refhas61 _ (by rw [str_size]; omega) k (by rw [str_size]; omega), Option.bind_some, refhas47 _ (by rw [str_size]; omega) k (by rw [str_size]; omega), Option.bind_some,
        refhas63 _ (by rw [str_size]; omega) k (by rw [str_size]; omega), Option.bind_some, bs_str]
      rw [wrap_add _ _ (by omega), wrap_add _ _ (by omega)]
      by_cases hs : (((splitL 61 t.2).length - 1 + ((splitL 47 t.2).length - 1) + ((splitL 63 t.2).length - 1) : Nat) : Int) > 0
      · have hw : wordV t.2 = quote t.2 := by
          unfold wordV
          rw [if_neg]
          rw [hasB_len, hasB_len, hasB_len, ha]
          simp only [Bool.true_and, Bool.and_eq_true, Bool.not_eq_true', decide_eq_false_iff_not]
          omega
        rw [hw] at last hwl
        rw [if_pos hs, hq, Option.bind_some, if_pos z1, if_pos z2, if_pos z3, if_pos (z4 _ (by omega)), str_app, last]
      · have hw : wordV t.2 = t.2 := by
          unfold wordV
          rw [if_pos]
          rw [hasB_len, hasB_len, hasB_len, ha]
          simp only [Bool.true_and, Bool.and_eq_true, Bool.not_eq_true', decide_eq_false_iff_not]
          omega
        rw [hw] at last
        rw [if_neg hs, if_pos z1, if_pos z2, if_pos z3, if_pos (z4 _ (by omega)), last]
    · have hw : wordV t.2 = quote t.2 := by
        unfold wordV
        rw [if_neg]
        simp [show atomL t.2 = false by simpa using ha]
      rw [hw] at last hwl
      rw [if_neg ha, hq, Option.bind_some, if_pos z1, if_pos z2, if_pos z3, if_pos (z4 _ (by omega)), str_app, last]
theorem reftext20_is (d : Bytes) (hd : d.length ≤ 1000000) (T : List (Bytes × Bytes)) (hT : T.length ≤ 1000000) (hx : ∀ x ∈ T, x.1.length ≤ 1000000 ∧ x.2.length ≤ 1000000) (k : Nat) (hk : T.length + 2000030 ≤ k) : bulletinref20_Text.f k (str d) (T.map par154) = some (str (typeText d T)) :=
  reftext_l0 (str d) T hT hx T 0 k d rfl hk (by omega)
end Go.Proofs.YtoikneogdbdplaaDoor.Pl
set_option linter.unusedVariables false
set_option linter.unusedSimpArgs false
namespace Go.Proofs.YtoikneogdbdplaaDoor.Pl
open Go.RowKit Go.Proofs.YtoikneogdbdplaaDoorW.PrintWords Go.Proofs.YtoikneogdbdplaaDoor.Fn

theorem rd154_at (L : List S97) (i : Nat) (h : i < L.length) : rd_T97 L (i : Int) = L[i] := by
  unfold rd_T97
  rw [Int.toNat_natCast, List.getD_eq_getElem?_getD, List.getElem?_eq_getElem h]; rfl
theorem light_l0 (D : ByteArray) (L : List S97) : ∀ (n i k : Nat), i + n = 21 → 2 * n + 2 ≤ k →
    ∃ b, bulletinlaw20_light.l0 k (i : Int) D L = some b ∧ (b = true → L.length ≤ 20 ∧ D.size ≤ 100 ∧ ∀ j (h : j < L.length), i ≤ j → L[j].f0.size ≤ 100 ∧ L[j].f1.size ≤ 300)
  | n, i, k, hi, hk => by
    obtain ⟨k, rfl⟩ : ∃ j, k = j + 1 + 1 := ⟨k - 2, by omega⟩
    rw [bulletinlaw20_light.l0]
    have stop : L.length ≤ i ∨ 20 ≤ i → ∃ b, bulletinlaw20_light.j1 (k + 1) (i : Int) false D L = some b ∧ (b = true → L.length ≤ 20 ∧ D.size ≤ 100 ∧ ∀ j (h : j < L.length), i ≤ j → L[j].f0.size ≤ 100 ∧ L[j].f1.size ≤ 300) := by
      intro hs
      rw [bulletinlaw20_light.j1, if_neg (by decide)]
      by_cases h20 : (L.length : Int) ≤ 20
      · rw [if_pos h20]
        refine ⟨_, rfl, fun hb => ⟨by omega, by have := of_decide_eq_true hb; omega, fun j h hj => ?_⟩⟩
        omega
      · rw [if_neg h20]
        exact ⟨_, rfl, fun hb => absurd hb (by decide)⟩
    by_cases hlt : i < L.length
    · rw [if_pos (by omega)]
      by_cases h20 : (i : Int) < 20
      · rw [decide_eq_true h20, bulletinlaw20_light.j1, if_pos rfl, if_pos (by omega), if_pos (by omega), rd154_at L i hlt]
        by_cases h1 : (L[i].f0.size : Int) > 100
        · rw [if_pos h1]; exact ⟨_, rfl, fun hb => absurd hb (by decide)⟩
        rw [if_neg h1]
        by_cases h2 : (L[i].f1.size : Int) > 300
        · rw [if_pos h2]; exact ⟨_, rfl, fun hb => absurd hb (by decide)⟩
        rw [if_neg h2, wrap_succ i (by omega)]
        cases n with
        | zero => omega
        | succ n =>
          obtain ⟨b, e, hb⟩ := light_l0 D L n (i + 1) k (by omega) (by omega)
          refine ⟨b, e, fun hq => ⟨(hb hq).1, (hb hq).2.1, fun j h hj => ?_⟩⟩
          rcases Nat.lt_or_ge i j with hl | hl
          · exact (hb hq).2.2 j h hl
          · obtain rfl : i = j := by omega
            exact ⟨by omega, by omega⟩
      · rw [decide_eq_false h20]; exact stop (.inr (by omega))
    · rw [if_neg (by omega)]; exact stop (.inl (by omega))
def of154 (x : S97) : Bytes × Bytes := (bs x.f0, bs x.f1)
theorem par154_of (L : List S97) : (L.map of154).map par154 = L := by
  rw [List.map_map]
  have : par154 ∘ of154 = id := funext fun x => by
    show (⟨str (bs x.f0), str (bs x.f1)⟩ : S97) = x
    rw [str_bs, str_bs]
  rw [this, List.map_id]
theorem to20_l0 (D : ByteArray) (T : List (Bytes × Bytes)) (hT : T.length ≤ 1000000) : ∀ (r acc : List (Bytes × Bytes)) (k : Nat), acc ++ r = T → r.length < k →
    bulletinlaw20_To.l0 k (acc.length : Int) D (T.map par154) D (acc.map par158) = some (D, T.map par158)
  | [], acc, k, h, hk => by
    obtain ⟨k, rfl⟩ : ∃ j, k = j + 1 := ⟨k - 1, by omega⟩
    rw [List.append_nil] at h
    subst h
    rw [bulletinlaw20_To.l0, if_neg (by rw [List.length_map]; omega)]
  | t :: r, acc, k, h, hk => by
    obtain ⟨k, rfl⟩ : ∃ j, k = j + 1 := ⟨k - 1, by omega⟩
    have hl := congrArg List.length h
    simp only [List.length_append, List.length_cons] at hl hk
    have hd : T.drop acc.length = t :: r := by rw [← h]; simp
    rw [bulletinlaw20_To.l0, if_pos (by rw [List.length_map]; omega), if_pos (by omega), if_pos (by rw [List.length_map]; omega), rd154_drop hd, wrap_succ _ (by omega)]
    have := to20_l0 D T hT r (acc ++ [t]) k (by simpa using h) (by omega)
    rw [List.length_append, List.map_append] at this
    exact this
theorem to20_is (D : ByteArray) (T : List (Bytes × Bytes)) (hT : T.length ≤ 1000000) (k : Nat) (hk : T.length < k) : bulletinlaw20_To.f k D (T.map par154) = some (D, T.map par158) :=
  to20_l0 D T hT T [] k rfl hk
theorem same20_l0 (D E : ByteArray) (T : List (Bytes × Bytes)) (hT : T.length ≤ 1000000) : ∀ (r : List (Bytes × Bytes)) (i k : Nat), T.drop i = r → r.length < k →
    bulletinlaw20_Same.l0 k true (i : Int) D (T.map par158) E (T.map par154) = some true
  | [], i, k, hd, hk => by
    obtain ⟨k, rfl⟩ : ∃ j, k = j + 1 := ⟨k - 1, by omega⟩
    have : T.length ≤ i := by
      have := congrArg List.length hd
      rw [List.length_drop, List.length_nil] at this; omega
    rw [bulletinlaw20_Same.l0, if_pos rfl, if_neg (by rw [List.length_map]; omega)]
  | t :: r, i, k, hd, hk => by
    obtain ⟨k, rfl⟩ : ∃ j, k = j + 1 := ⟨k - 1, by omega⟩
    obtain ⟨h1, h2⟩ := dropS_lt hd
    simp only [List.length_cons] at hk
    rw [bulletinlaw20_Same.l0, if_pos rfl, if_pos (by rw [List.length_map]; omega), if_pos (by rw [List.length_map]; omega), if_pos (by omega), rd158_drop hd, rd154_drop hd, if_pos (show (par158 t).f0.toList = (par154 t).f0.toList from rfl), wrap_succ i (by omega)]
    rw [show ((par158 t).f1.toList == (par154 t).f1.toList) = true from beq_self_eq_true _]
    exact same20_l0 D E T hT r (i + 1) k h2 (by omega)
theorem same20_is (D : ByteArray) (T : List (Bytes × Bytes)) (hT : T.length ≤ 1000000) (k : Nat) (hk : T.length + 2 ≤ k) : bulletinlaw20_Same.f k D (T.map par158) D (T.map par154) = some true := by
  obtain ⟨k, rfl⟩ : ∃ j, k = j + 1 := ⟨k - 1, by omega⟩
  unfold bulletinlaw20_Same.f
  rw [if_pos rfl, bulletinlaw20_Same.j0, List.length_map, List.length_map, beq_self_eq_true]
  exact same20_l0 D D T hT T 0 k rfl (by omega)
theorem paramsL_len : ∀ (l : List Bytes) {r : List (Bytes × Bytes)}, paramsL l = some r → r.length = l.length
  | [], r, h => by cases h; rfl
  | p :: l, r, h => by
    rw [paramsL] at h
    cases hp : paramL p with
    | none => rw [hp] at h; cases h
    | some x =>
      rw [hp, Option.bind_some] at h
      cases hl : paramsL l with
      | none => rw [hl] at h; cases h
      | some q =>
        rw [hl] at h
        cases h
        rw [List.length_cons, List.length_cons, paramsL_len l hl]
theorem readTypeL_len (s : Bytes) {r : Bytes × List (Bytes × Bytes)} (h : readTypeL s = some r) : r.2.length ≤ s.length + 1 := by
  have hb := scanL_bound s
  unfold readTypeL at h
  by_cases hz : (scanL [] .out s).2 = 0
  · rw [if_pos hz] at h
    have hq := (pcs_bound (scanL [] .out s).1 [] [] s.length (by simp only [List.length_nil]; omega) (by simp)).2
    generalize pcs [] [] (scanL [] .out s).1 = P at h hq
    cases P with
    | nil => cases h; simp
    | cons p l =>
      rw [typeL] at h
      by_cases hk : kindL p = true
      · rw [if_pos hk] at h
        cases hl : paramsL l with
        | none => rw [hl] at h; cases h
        | some q =>
          rw [hl] at h
          cases h
          have := paramsL_len l hl
          simp only [List.length_cons, List.length_nil] at hq
          show q.length ≤ _
          omega
      · rw [if_neg hk] at h; cases h
  · rw [if_neg hz] at h; cases h
theorem types_j1 (D : ByteArray) (hD : D.size ≤ 100) (T : List (Bytes × Bytes)) (hT : T.length ≤ 20) (hx : ∀ x ∈ T, x.1.length ≤ 1000000 ∧ x.2.length ≤ 1000000) (n : ByteArray) (hn : n.size ≤ 1000) (k : Nat) (hk : 5000000 ≤ k) :
    bulletinlaw20_MimeTypes.j1 (k + 1) n false D (T.map par154) = some true := by
  have t1 := text_is20 (bs D) (by rw [bs_length]; omega) T (by omega) hx k (by omega)
  have t2 := reftext20_is (bs D) (by rw [bs_length]; omega) T (by omega) hx k (by omega)
  rw [str_bs] at t1 t2
  rw [bulletinlaw20_MimeTypes.j1, if_neg (by decide), to20_is D T (by omega) k (by omega), Option.bind_some, value_is D T (by omega) n (by omega) k (by omega), Option.bind_some, refvalue_is D T (by omega) n (by omega) k (by omega), Option.bind_some,
    t1, Option.bind_some, t2, Option.bind_some, if_pos rfl, if_pos rfl, if_pos (beq_self_eq_true _), works20 k (by omega)]
  rfl
theorem MimeTypes (a0 a1_0 : ByteArray) (l1_1 : List S97) (a2 : ByteArray) : ∃ k, bulletinlaw20_MimeTypes.f k a0 a1_0 l1_1 a2 = some true := by
  refine ⟨10000000 + 1 + 1, ?_⟩
  generalize hk : (10000000 : Nat) = k
  have hw := works20 (k + 1) (by omega)
  unfold bulletinlaw20_MimeTypes.f
  have yes : bulletinlaw20_MimeTypes.j0 (k + 1 + 1) a0 a2 true a1_0 l1_1 = some true := by rw [bulletinlaw20_MimeTypes.j0, if_pos rfl, hw]; rfl
  by_cases h1 : (a0.size : Int) > 1000
  · rw [if_pos h1, yes]
  rw [if_neg h1]
  by_cases h2 : (a2.size : Int) > 100
  · rw [if_pos h2, yes]
  rw [if_neg h2]
  obtain ⟨b, e, hb⟩ := light_l0 a1_0 l1_1 21 0 (k + 1 + 1) rfl (by omega)
  have e' : bulletinlaw20_light.f (k + 1 + 1) a1_0 l1_1 = some b := e
  rw [e', Option.bind_some]
  cases b with
  | false => exact yes
  | true =>
    obtain ⟨q1, q2, q3⟩ := hb rfl
    rw [show (!true) = false from rfl, bulletinlaw20_MimeTypes.j0, if_neg (by decide), readType_is a0 (by omega) (k + 1) (by omega), Option.bind_some, refReadType_is a0 (by omega) (k + 1) (by omega), Option.bind_some]
    have hx : ∀ x ∈ l1_1.map of154, x.1.length ≤ 1000000 ∧ x.2.length ≤ 1000000 := by
      intro x hx
      obtain ⟨y, hy, rfl⟩ := List.mem_map.1 hx
      obtain ⟨j, hj, rfl⟩ := List.getElem_of_mem hy
      have := q3 j hj (Nat.zero_le _)
      show (bs l1_1[j].f0).length ≤ _ ∧ (bs l1_1[j].f1).length ≤ _
      rw [bs_length, bs_length]
      omega
    have fin := types_j1 a1_0 q2 (l1_1.map of154) (by rw [List.length_map]; exact q1) hx a2 (by omega) k (by omega)
    rw [par154_of] at fin
    cases hr : readTypeL (bs a0) with
    | none =>
      have hs := same20_is (str []) [] (by simp) (k + 1) (by simp only [List.length_nil]; omega)
      show (bulletinlaw20_Same.f (k + 1) (str []) [] (str []) []).bind _ = _
      rw [show bulletinlaw20_Same.f (k + 1) (str []) [] (str []) [] = some true from hs, Option.bind_some, if_pos rfl]
      exact fin
    | some r =>
      have hl := readTypeL_len _ hr
      rw [bs_length] at hl
      have hs := same20_is (str r.1) r.2 (by omega) (k + 1) (by omega)
      show (bulletinlaw20_Same.f (k + 1) (str r.1) (r.2.map par158) (str r.1) (r.2.map par154)).bind _ = _
      rw [hs, Option.bind_some, if_pos rfl]
      exact fin
end Go.Proofs.YtoikneogdbdplaaDoor.Pl
set_option linter.unusedVariables false
namespace Go.Proofs.YtoikneogdbdplaaDoor.Fn
open Go.RowKit Go.ChangeShapes Go.WideShapes Go.Proofs.YtoikneogdbdplaaDoorW.PrintWords

/-! A slice of fields (two texts each) that came in. -/
def strOf : Value → ByteArray | .string s => s | _ => ByteArray.empty
end Go.Proofs.YtoikneogdbdplaaDoor.Fn
set_option linter.unusedVariables false
namespace Go.Proofs.YtoikneogdbdplaaDoor.Fn
open Go.RowKit Go.ChangeShapes Go.WideShapes Go.Proofs.YtoikneogdbdplaaDoorW.PrintWords

/-! A slice of parameters (two texts each) that came in. -/
theorem open_params {H : Type} {enc : TypeId × Value → H} {w : World} {base : Nat} {spare : Nat → Bool} {held : Bool} {fuel : Nat} {v : Value} {x : DataW H × List MemPlace}
    (h : DataW.trod enc Tryd.prog w base spare held fuel 45 [v] = some x) :
    ∃ (A : Option Addr) (c : Nat) (l : List (S97)), v = .slice A l.length c ∧ l.length ≤ c ∧ c ≤ maxLen ∧ Kd.C k97 w A l.length l := by
  rcases Go.Deep.open_slice_pairs Tryd.underlying45 Tryd.underlying97 (by kernel_rfl) rfl rfl (by kernel_rfl) (by kernel_rfl) h with ⟨h0, _⟩ | ⟨a, len, cap, m, n, V0, V1, D0, D1, P0, P1, hv, hb, hl, hm, hmm, _, hx⟩
  · refine ⟨none, 0, [], ?_, Nat.le_refl _, Nat.zero_le _, ?_⟩
    · simpa using h0
    · exact ⟨rfl, by simp, fun h => absurd h (by simp)⟩
  · have hlm : len ≤ m := by rw [hmm]; split <;> omega
    have s0 : ∀ i, i < len → V0 i = .string (strOf (V0 i)) := fun i hi => by
      obtain ⟨_, _, g, _⟩ := hx i (by omega)
      obtain ⟨s, e, _⟩ := DataW.trod_string Tryd.underlying9 g
      simp only [List.cons.injEq, and_true] at e
      rw [e]; rfl
    have s1 : ∀ i, i < len → V1 i = .string (strOf (V1 i)) := fun i hi => by
      obtain ⟨_, _, _, g⟩ := hx i (by omega)
      obtain ⟨s, e, _⟩ := DataW.trod_string Tryd.underlying9 g
      simp only [List.cons.injEq, and_true] at e
      rw [e]; rfl
    have hlen : ((List.range len).map fun i => (⟨strOf (V0 i), strOf (V1 i)⟩ : S97)).length = len := by simp
    refine ⟨some a, cap, (List.range len).map fun i => ⟨strOf (V0 i), strOf (V1 i)⟩, ?_, by rw [hlen]; exact hl, hm, ?_⟩
    · rw [hlen]; simpa using hv
    · rw [hlen]
      refine ⟨hlen, by unfold maxLen at hm; omega, fun h0 => ⟨a, rfl, fun j p hp => ?_⟩⟩
      have hj : j < len := by
        have := (List.getElem?_eq_some_iff.1 hp).1
        rwa [hlen] at this
      have hp' : p = ⟨strOf (V0 j), strOf (V1 j)⟩ := by
        rw [List.getElem?_map, List.getElem?_range hj] at hp
        exact (Option.some.inj hp).symm
      subst hp'
      obtain ⟨g0, g1, _, _⟩ := hx j (by omega)
      rw [s0 j hj] at g0
      rw [s1 j hj] at g1
      refine ⟨[.string (strOf (V0 j)), .string (strOf (V1 j))], rfl, k97_mk w _, fun i u hu => ?_⟩
      match i, hu with
      | 0, hu => obtain rfl := Option.some.inj hu; exact g0
      | 1, hu => obtain rfl := Option.some.inj hu; exact g1
      | i + 2, hu => simp at hu
end Go.Proofs.YtoikneogdbdplaaDoor.Fn
