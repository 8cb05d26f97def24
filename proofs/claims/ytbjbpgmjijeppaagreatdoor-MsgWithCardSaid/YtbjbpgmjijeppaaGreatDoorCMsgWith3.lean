/- A part of the proof of this sentence: Any message with a field put is as the document has it, and the message itself is as it was; the tables of unicode/utf8 are as the program's text lays them. -/
import Derived.Test.YtbjbpgmjijeppaaGreatDoorCMsgWith2
import Derived.Test.YtbjbpgmjijeppaaGreatDoorRows
import Derived.HandedShaped
import Derived.LaidLaws
import Derived.LaidHandle
import Derived.Deep.DeepLaidRun
import Derived.Stop.Joined
import Derived.PinnedBridge
import Derived.Lib.LaidU8
import Derived.ProofKit
import Derived.RangeFuncSeq
import Derived.Deep.QuietTactic
import Derived.BigQuiet
import Derived.Shelf.Strings.IndexAnyAll
import Derived.Shelf.Strings.SlTrimAscii
import Derived.RangeFuncRecord
set_option linter.unusedVariables false
namespace Go.Proofs.YtbjbpgmjijeppaaGreatDoor.Pl
open Go.RowKit Go.Proofs.YtbjbpgmjijeppaaGreatDoorW.PrintWords Go.Proofs.YtbjbpgmjijeppaaGreatDoor.Fn

/-! Layer 13: the address that tokens are. -/
def isT (t : Tok) (s : Bytes) : Bool := t.1 == 3 && t.2 == s
def wordT (t : Tok) : Bool := t.1 != 3
def atomT (t : Tok) : Bool := t.1 != 3 && t.1 == 1
def altOk (p : Tok → Bool) : List Tok → Bool
 | [] => false
 | [x] => p x
 | x :: d :: r => p x && isT d [46] && altOk p r
def cat (l : List Tok) : Bytes := l.flatMap (·.2)
def atSplit : List Tok → Option (List Tok × List Tok)
 | [] => none
 | t :: r => if isT t [64] = true then some ([], r) else (atSplit r).map fun x => (t :: x.1, x.2)
abbrev Res := ByteArray × ByteArray × Int
def finish (a b : Bytes) : Res := if why (str a) (str (fold b)) = 0 then (str a, str (fold b), 0) else (str [], str [], why (str a) (str (fold b)))
def noAddr : Res := (str [], str [], 130)
def ofT (l : List Tok) : Res := match atSplit l with
 | none => noAddr
 | some (A, B) => if altOk wordT A = true ∧ altOk atomT B = true then finish (cat A) (cat B) else noAddr

theorem atSplit_some {l A B : List Tok} (h : atSplit l = some (A, B)) : ∃ t, isT t [64] = true ∧ l = A ++ t :: B ∧ ∀ x ∈ A, isT x [64] = false := by
 induction l generalizing A B with
 | nil => cases h
 | cons t r ih =>
  rw [atSplit] at h
  by_cases ht : isT t [64] = true
  ·rw [if_pos ht] at h
   cases h
   exact ⟨t, ht, rfl, by simp⟩
  ·rw [if_neg ht] at h
   cases hr : atSplit r with
   | none => rw [hr] at h; cases h
   | some x =>
    obtain ⟨A', B'⟩ := x
    rw [hr] at h
    simp only [Option.map_some, Option.some.injEq, Prod.mk.injEq] at h
    obtain ⟨rfl, rfl⟩ := h
    obtain ⟨u, h1, h2, h3⟩ := ih hr
    refine ⟨u, h1, by rw [h2]; rfl, ?_⟩
    intro x hx
    rcases List.mem_cons.1 hx with e | e
    ·rw [e]; simpa using ht
    ·exact h3 x e
theorem atSplit_of {A B : List Tok} {t : Tok} (ht : isT t [64] = true) (hA : ∀ x ∈ A, isT x [64] = false) : atSplit (A ++ t :: B) = some (A, B) := by
 induction A with
 | nil => rw [List.nil_append, atSplit, if_pos ht]
 | cons a A ih =>
  rw [List.cons_append, atSplit, if_neg (by rw [hA a (by simp)]; decide), ih (fun x hx => hA x (List.mem_cons_of_mem _ hx))]
  rfl

/-! the program's: words joined by dots, as long as they go on -/
def jn (p : Tok → Bool) : List Tok → Option (Bytes × List Tok)
 | [] => none
 | [x] => if p x = true then some (x.2, []) else none
 | x :: d :: r => if p x = true then (if isT d [46] = true then (jn p r).map fun y => (x.2 ++ d.2 ++ y.1, y.2) else some (x.2, d :: r)) else none
theorem jn_some (p : Tok → Bool) : ∀ {l : List Tok} {s : Bytes} {q : List Tok}, jn p l = some (s, q) → ∃ A, l = A ++ q ∧ altOk p A = true ∧ s = cat A
 | [], s, q, h => by cases h
 | [x], s, q, h => by
  rw [jn] at h
  by_cases hp : p x = true
  ·rw [if_pos hp] at h
   simp only [Option.some.injEq, Prod.mk.injEq] at h
   obtain ⟨rfl, rfl⟩ := h
   exact ⟨[x], rfl, hp, by simp [cat]⟩
  ·rw [if_neg hp] at h; cases h
 | x :: d :: r, s, q, h => by
  rw [jn] at h
  by_cases hp : p x = true
  ·rw [if_pos hp] at h
   by_cases hd : isT d [46] = true
   ·rw [if_pos hd] at h
    cases hr : jn p r with
    | none => rw [hr] at h; cases h
    | some y =>
     obtain ⟨s', q'⟩ := y
     rw [hr] at h
     simp only [Option.map_some, Option.some.injEq, Prod.mk.injEq] at h
     obtain ⟨rfl, rfl⟩ := h
     obtain ⟨A, h1, h2, h3⟩ := jn_some p hr
     refine ⟨x :: d :: A, by rw [h1]; rfl, ?_, ?_⟩
     ·rw [altOk, hp, hd, h2]; rfl
     ·rw [h3]; simp [cat]
   ·rw [if_neg hd] at h
    simp only [Option.some.injEq, Prod.mk.injEq] at h
    obtain ⟨rfl, rfl⟩ := h
    exact ⟨[x], rfl, hp, by simp [cat]⟩
  ·rw [if_neg hp] at h; cases h
theorem jn_of (p : Tok → Bool) : ∀ (A q : List Tok), altOk p A = true → (∀ d r, q = d :: r → isT d [46] = false) → jn p (A ++ q) = some (cat A, q)
 | [], q, h, _ => by cases h
 | [x], q, h, hq => by
  have hp : p x = true := h
  cases q with
  | nil => rw [List.append_nil, jn, if_pos hp]; simp [cat]
  | cons d r =>
   rw [show [x] ++ d :: r = x :: d :: r from rfl, jn, if_pos hp, if_neg (by rw [hq d r rfl]; decide)]
   simp [cat]
 | x :: d :: A, q, h, hq => by
  rw [altOk, Bool.and_eq_true, Bool.and_eq_true] at h
  rw [show (x :: d :: A) ++ q = x :: d :: (A ++ q) from rfl, jn, if_pos h.1.1, if_pos h.1.2, jn_of p A q h.2 hq]
  simp [cat]
def resJ (w : Bytes) : Option (Bytes × List Tok) → ByteArray × List S160 × Bool
 | none => (str [], [], false)
 | some (s, q) => (str (w ++ s), q.map tok142, true)
def pOf (b : Bool) : Tok → Bool := fun t => if b = true then atomT t else wordT t
theorem rd142_0 (x : Tok) (r : List Tok) : rd_T160 ((x :: r).map tok142) 0 = tok142 x := rfl
theorem beq_str (t : Bytes) (a : Array UInt8) : ((str t).toList == (⟨a⟩ : ByteArray).toList) = (t == a.toList) := by
 rw [toList_str, toList_bs]
 rfl
def headIs (l : List Tok) (s : Bytes) : Bool := match l with | [] => false | t :: _ => isT t s
theorem addris_is (l : List Tok) (a : Array UInt8) : addr_is.f (l.map tok142) (⟨a⟩ : ByteArray) = some (headIs l a.toList) := by
 unfold addr_is.f
 cases l with
 | nil => rw [if_neg (by simp)]; rfl
 | cons t r =>
  rw [if_pos (by simp <;> omega), if_pos (by simp <;> omega), rd142_0]
  unfold headIs isT tok142
  simp only []
  rw [beq_str]
theorem joined_is (b : Bool) : ∀ (n k : Nat) (l : List Tok) (w : Bytes), l.length ≤ n → 2 * n + 2 ≤ k → w.length + (cat l).length ≤ 1000000 →
  addr_joined.l0 k (l.map tok142) b (str w) = some (resJ w (jn (pOf b) l))
 | n, k, [], w, hn, hk, hw => by
  obtain ⟨k, rfl⟩ : ∃ j, k = j + 2 := ⟨k - 2, by omega⟩
  rw [addr_joined.l0, if_pos (by simp), addr_joined.j1, if_pos rfl]
  rfl
 | 0, k, x :: r, w, hn, hk, hw => by simp at hn
 | n + 1, k, x :: r, w, hn, hk, hw => by
  obtain ⟨k, rfl⟩ : ∃ j, k = j + 2 := ⟨k - 2, by omega⟩
  simp only [List.length_cons] at hn
  have hsel : addr_joined.l0 (k + 2) ((x :: r).map tok142) b (str w) = addr_joined.j1 (k + 1) ((x :: r).map tok142) b (str w) (!(pOf b x)) := by
   rw [addr_joined.l0, if_neg (by simp <;> omega), if_pos (by simp <;> omega), rd142_0]
   have e3 : ((tok142 x).f0 = 3) = (x.1 = 3) := rfl
   unfold pOf atomT wordT
   by_cases h3 : x.1 = 3
   ·rw [if_pos (by rw [e3]; exact h3)]
    cases b <;> simp [h3]
   ·rw [if_neg (by rw [e3]; exact h3)]
    have q3 : (x.1 == 3) = false := by simpa using h3
    cases b with
    | true => rw [if_pos rfl]; simp [q3, tok142, bne]
    | false => rw [if_neg (by decide)]; simp [q3, bne]
  have hc : (cat (x :: r)).length = x.2.length + (cat r).length := by simp [cat]
  rw [hsel, addr_joined.j1]
  cases hp : pOf b x with
  | false =>
   rw [show (!false) = true from rfl, if_pos rfl]
   have : jn (pOf b) (x :: r) = none := by
    cases r with
    | nil => rw [jn, if_neg (by rw [hp]; decide)]
    | cons d r => rw [jn, if_neg (by rw [hp]; decide)]
   rw [this]
   rfl
  | true =>
   rw [show (!true) = false from rfl, if_neg (by decide), if_pos (by simp <;> omega), rd142_0, show (tok142 x).f1 = str x.2 from rfl, str_app, if_pos (by rw [str_size, str_size]; omega), if_pos (by simp <;> omega), Option.bind_some,
    show ((x :: r).map tok142).drop 1 = r.map tok142 from rfl, addris_is, Option.bind_some]
   cases r with
   | nil =>
    rw [show headIs [] (#[46] : Array UInt8).toList = false from rfl, if_neg (by decide), jn, if_pos hp]
    rfl
   | cons d r =>
    simp only [List.length_cons] at hn
    have hc2 : (cat (d :: r)).length = d.2.length + (cat r).length := by simp [cat]
    rw [jn, if_pos hp]
    cases hd : isT d [46] with
    | false =>
     rw [show headIs (d :: r) (#[46] : Array UInt8).toList = isT d [46] from rfl, hd, if_neg (by decide), if_neg (by decide)]
     rfl
    | true =>
     have hd2 : d.2 = [46] := by
      unfold isT at hd
      rw [Bool.and_eq_true, beq_iff_eq, beq_iff_eq] at hd
      exact hd.2
     rw [show headIs (d :: r) (#[46] : Array UInt8).toList = isT d [46] from rfl, hd, if_pos rfl, if_pos (by rw [str_size]; rw [hd2] at hc2; simp at hc2 ⊢ <;> omega), if_pos (by simp <;> omega), if_pos rfl,
      show ((d :: r).map tok142).drop 1 = r.map tok142 from rfl, show (⟨#[46]⟩ : ByteArray) = str [46] from rfl, str_app]
     rw [joined_is b n k r (w ++ x.2 ++ [46]) (by omega) (by omega) (by rw [hd2] at hc2; simp at hc2 ⊢ <;> omega)]
     cases hj : jn (pOf b) r with
     | none => rfl
     | some y =>
      obtain ⟨s, q⟩ := y
      simp [resJ, hd2]
theorem no64 {p : Tok → Bool} (hp : ∀ t, p t = true → t.1 ≠ 3) : ∀ {A : List Tok}, altOk p A = true → ∀ x ∈ A, isT x [64] = false
 | [], h, x, hx => by cases hx
 | [y], h, x, hx => by
  have : x = y := by simpa using hx
  subst this
  have := hp x h
  unfold isT
  simp [this]
 | y :: d :: A, h, x, hx => by
  rw [altOk, Bool.and_eq_true, Bool.and_eq_true] at h
  rcases List.mem_cons.1 hx with e | e
  ·rw [e]
   have := hp y h.1.1
   unfold isT
   simp [this]
  ·rcases List.mem_cons.1 e with e | e
   ·rw [e]
    have := h.1.2
    unfold isT at this ⊢
    rw [Bool.and_eq_true, beq_iff_eq, beq_iff_eq] at this
    rw [this.2]
    simp
   ·exact no64 hp h.2 x e
theorem addrOf_is (l : List Tok) (hl : l.length ≤ 100000) (hc : (cat l).length ≤ 100000) (k : Nat) (hk : 2 * l.length + 400000 ≤ k) : addr_Of.f k (l.map tok142) = some (ofT l) := by
 obtain ⟨k, rfl⟩ : ∃ j, k = j + 2 := ⟨k - 2, by omega⟩
 have bad : ∀ (k : Nat) (x : List S160) (y : ByteArray), addr_Of.j0 (k + 1) x y true = some noAddr := by
  intro k x y
  rw [addr_Of.j0, if_pos rfl]
  rfl
 have bad1 : ∀ (k : Nat) (x y : ByteArray), addr_Of.j1 (k + 1) x y true = some noAddr := by
  intro k x y
  rw [addr_Of.j1, if_pos rfl]
  rfl
 unfold addr_Of.f addr_joined.f
 rw [show (⟨#[]⟩ : ByteArray) = str [] from rfl, joined_is false l.length (k + 2) l [] (Nat.le_refl _) (by omega) (by simp <;> omega), Option.bind_some]
 have hpf : pOf false = wordT := by funext t; rfl
 have hpt : pOf true = atomT := by funext t; rfl
 rw [hpf]
 have hword : ∀ t, wordT t = true → t.1 ≠ 3 := fun t h => by unfold wordT at h; simpa using h
 cases hj : jn wordT l with
 | none =>
  rw [show resJ [] none = (str [], [], false) from rfl, if_neg (by decide), bad]
  unfold ofT
  cases hs : atSplit l with
  | none => rfl
  | some x =>
   obtain ⟨A, B⟩ := x
   obtain ⟨t, h1, h2, h3⟩ := atSplit_some hs
   simp only []
   rw [if_neg]
   rintro ⟨g, _⟩
   have := jn_of wordT A (t :: B) g (fun d r e => by
    cases e
    unfold isT at h1 ⊢
    rw [Bool.and_eq_true, beq_iff_eq, beq_iff_eq] at h1
    rw [h1.2]
    simp)
   rw [← h2, hj] at this
   cases this
 | some y =>
  obtain ⟨s, q⟩ := y
  obtain ⟨A0, g1, g2, g3⟩ := jn_some wordT hj
  have hA0 := no64 hword g2
  rw [show resJ [] (some (s, q)) = (str s, q.map tok142, true) from rfl]
  simp only [if_true]
  rw [addris_is, Option.bind_some]
  have hother : (∀ t r, q = t :: r → isT t [64] = false) → ofT l = noAddr := by
   intro hq
   unfold ofT
   cases hs : atSplit l with
   | none => rfl
   | some x =>
    obtain ⟨A, B⟩ := x
    obtain ⟨t, h1, h2, h3⟩ := atSplit_some hs
    simp only []
    rw [if_neg]
    rintro ⟨g, _⟩
    have hh := jn_of wordT A (t :: B) g (fun d r e => by
     cases e
     unfold isT at h1 ⊢
     rw [Bool.and_eq_true, beq_iff_eq, beq_iff_eq] at h1
     rw [h1.2]
     simp)
    rw [← h2, hj] at hh
    simp only [Option.some.injEq, Prod.mk.injEq] at hh
    have := hq t B hh.2
    rw [h1] at this
    cases this
  cases q with
  | nil =>
   rw [hother (fun t r e => by cases e)]
   exact bad _ _ _
  | cons t B =>
   simp only []
   rw [show headIs (t :: B) (#[64] : Array UInt8).toList = isT t [64] from rfl]
   cases ht : isT t [64] with
   | false =>
    rw [hother (fun t' r e => by cases e; exact ht)]
    exact bad _ _ _
   | true =>
    have hsp : atSplit l = some (A0, B) := by rw [g1]; exact atSplit_of ht hA0
    have hcl : (cat l).length = (cat A0).length + (t.2.length + (cat B).length) := by rw [g1]; simp [cat]
    have hll : l.length = A0.length + (B.length + 1) := by rw [g1]; simp
    rw [show (!true) = false from rfl, addr_Of.j0, if_neg (by decide), if_pos (by simp <;> omega), show ((t :: B).map tok142).drop 1 = B.map tok142 from rfl]
    unfold addr_joined.f
    rw [show (⟨#[]⟩ : ByteArray) = str [] from rfl, joined_is true B.length (k + 1) B [] (Nat.le_refl _) (by omega) (by simp <;> omega), Option.bind_some, hpt]
    unfold ofT
    rw [hsp]
    simp only []
    cases hj2 : jn atomT B with
    | none =>
     rw [show resJ [] none = (str [], [], false) from rfl, if_neg (by decide), bad1, if_neg]
     rintro ⟨_, g⟩
     have := jn_of atomT B [] g (fun d r e => by cases e)
     rw [List.append_nil, hj2] at this
     cases this
    | some y =>
     obtain ⟨s2, q2⟩ := y
     obtain ⟨A2, f1, f2, f3⟩ := jn_some atomT hj2
     rw [show resJ [] (some (s2, q2)) = (str s2, q2.map tok142, true) from rfl]
     simp only [if_true]
     cases q2 with
     | cons d r =>
      rw [show decide (((((d :: r).map tok142).length : Nat) : Int) > 0) = true by simp <;> omega, bad1, if_neg]
      rintro ⟨_, g⟩
      have := jn_of atomT B [] g (fun d r e => by cases e)
      rw [List.append_nil, hj2] at this
      simp at this
     | nil =>
      rw [List.append_nil] at f1
      subst f1
      rw [show decide ((((([] : List Tok).map tok142).length : Nat) : Int) > 0) = false from rfl, addr_Of.j1, if_neg (by decide), if_pos ⟨g2, f2⟩, f3, g3]
      have hb : (cat B).length ≤ 100000 := by omega
      have ha : (cat A0).length ≤ 100000 := by omega
      rw [glyphFold_is _ (by rw [str_size]; omega), bs_str, Option.bind_some, addrWhy_is _ _ (by rw [str_size]; omega) (by rw [str_size, fold_length]; omega) k (by rw [str_size]; omega), Option.bind_some]
      unfold finish
      by_cases hw : why (str (cat A0)) (str (fold (cat B))) = 0
      ·rw [if_pos hw, if_pos hw]
      ·rw [if_neg hw, if_neg hw]
       rfl
end Go.Proofs.YtbjbpgmjijeppaaGreatDoor.Pl
set_option linter.unusedVariables false
set_option linter.unusedSimpArgs false
namespace Go.Proofs.YtbjbpgmjijeppaaGreatDoor.Pl
open Go.RowKit Go.Proofs.YtbjbpgmjijeppaaGreatDoorW.PrintWords Go.Proofs.YtbjbpgmjijeppaaGreatDoor.Fn

/-! how many tokens there are, and how long they are -/
def pend : Sc → Nat
 | .atom _ => 1
 | _ => 0
theorem cat_app (a b : List Tok) : cat (a ++ b) = cat a ++ cat b := by simp [cat]
theorem tail_len {c : UInt8} {l : Bytes} (h : foldAt (c :: l) = true) : l.tail.length + 1 = l.length := by
 cases l with
 | nil => cases h
 | cons b l => simp
theorem stepOut_bound {acc : List Tok} {c : UInt8} {l : Bytes} {a : List Tok} {t : Sc} {r : Bytes} (h : stepOut acc c l = .inl (a, t, r)) :
  a.length + pend t + r.length ≤ acc.length + (l.length + 1) ∧ (cat a).length + (wOf t).length + r.length ≤ (cat acc).length + (l.length + 1) := by
 unfold stepOut at h
 by_cases c1 : foldAt (c :: l) = true
 ·rw [if_pos c1] at h
  have := tail_len c1
  simp only [Sum.inl.injEq, Prod.mk.injEq] at h
  obtain ⟨rfl, rfl, rfl⟩ := h
  simp only [pend, wOf, List.length_nil]
  omega
 ·rw [if_neg c1] at h
  repeat' split at h
  all_goals (first | (cases h; done) | (simp only [Sum.inl.injEq, Prod.mk.injEq] at h; obtain ⟨rfl, rfl, rfl⟩ := h; simp only [pend, wOf, cat_app, List.length_append, List.length_nil, List.length_cons]; simp [cat]; try omega))
theorem step_bound {acc : List Tok} {st : Sc} {c : UInt8} {l : Bytes} {a : List Tok} {t : Sc} {r : Bytes} (h : step acc st c l = .inl (a, t, r)) :
  a.length + pend t + r.length ≤ acc.length + pend st + (l.length + 1) ∧ (cat a).length + (wOf t).length + r.length ≤ (cat acc).length + (wOf st).length + (l.length + 1) := by
 cases st with
 | out =>
  have := stepOut_bound h
  rw [show pend .out = 0 from rfl, show wOf .out = [] from rfl, List.length_nil]
  omega
 | atom w =>
  unfold step at h
  simp only [] at h
  by_cases ha : atomic c = true
  ·rw [if_pos ha] at h
   simp only [Sum.inl.injEq, Prod.mk.injEq] at h
   obtain ⟨rfl, rfl, rfl⟩ := h
   simp only [pend, wOf, List.length_append, List.length_cons, List.length_nil]
   omega
  ·rw [if_neg ha] at h
   have := stepOut_bound h
   rw [cat_app] at this
   rw [show pend (.atom w) = 1 from rfl, show wOf (.atom w) = w from rfl]
   simp only [List.length_append, List.length_cons, List.length_nil] at this ⊢
   have e : (cat [((1 : Int), w)]).length = w.length := by simp [cat]
   omega
 | quot w b =>
  cases b with
  | true =>
   unfold step at h
   simp only [] at h
   repeat' split at h
   all_goals (first | (cases h; done) | (simp only [Sum.inl.injEq, Prod.mk.injEq] at h; obtain ⟨rfl, rfl, rfl⟩ := h; simp only [pend, wOf, List.length_append, List.length_cons, List.length_nil]; omega))
  | false =>
   unfold step at h
   simp only [] at h
   by_cases c1 : foldAt (c :: l) = true
   ·rw [if_pos c1] at h
    have := tail_len c1
    simp only [Sum.inl.injEq, Prod.mk.injEq] at h
    obtain ⟨rfl, rfl, rfl⟩ := h
    simp only [pend, wOf]
    omega
   ·rw [if_neg c1] at h
    have e : (cat [((2 : Int), w)]).length = w.length := by simp [cat]
    repeat' split at h
    all_goals (first | (cases h; done) | (simp only [Sum.inl.injEq, Prod.mk.injEq] at h; obtain ⟨rfl, rfl, rfl⟩ := h; simp only [pend, wOf, cat_app, List.length_append, List.length_cons, List.length_nil]; omega))
 | comm d b =>
  cases b with
  | true =>
   unfold step at h
   simp only [] at h
   repeat' split at h
   all_goals (first | (cases h; done) | (simp only [Sum.inl.injEq, Prod.mk.injEq] at h; obtain ⟨rfl, rfl, rfl⟩ := h; simp only [pend, wOf, List.length_append, List.length_cons, List.length_nil]; omega))
  | false =>
   unfold step commAfter at h
   simp only [] at h
   by_cases c1 : foldAt (c :: l) = true
   ·rw [if_pos c1] at h
    have := tail_len c1
    simp only [Sum.inl.injEq, Prod.mk.injEq] at h
    obtain ⟨rfl, rfl, rfl⟩ := h
    simp only [pend, wOf]
    omega
   ·rw [if_neg c1] at h
    generalize (if c = 40 then d + 1 else if c = 41 then d - 1 else d) = d' at h
    repeat' split at h
    all_goals (first | (cases h; done) | (simp only [Sum.inl.injEq, Prod.mk.injEq] at h; obtain ⟨rfl, rfl, rfl⟩ := h; simp only [pend, wOf, List.length_nil]; omega))
theorem scan_bound : ∀ (k : Nat) (acc : List Tok) (st : Sc) (l : Bytes), l.length ≤ k →
  (scan k acc st l).1.length ≤ acc.length + pend st + l.length ∧ (cat (scan k acc st l).1).length ≤ (cat acc).length + (wOf st).length + l.length
 | k, acc, st, [], _ => by
  have e : scan k acc st [] = endOf acc st := by cases k <;> rfl
  rw [e]
  cases st <;> simp [endOf, pend, wOf, cat]
 | 0, acc, st, c :: l, h => by simp at h
 | k + 1, acc, st, c :: l, h => by
  rw [scan]
  simp only [List.length_cons] at h
  cases hs : step acc st c l with
  | inr e => simp [cat]
  | inl x =>
   obtain ⟨a, t, r⟩ := x
   have h1 := step_bound hs
   have h2 := step_le hs
   have ih := scan_bound k a t r (by omega)
   simp only [List.length_cons]
   omega
theorem scanL_bound (l : Bytes) : (scanL [] .out l).1.length ≤ l.length ∧ (cat (scanL [] .out l).1).length ≤ l.length := by
 have := scan_bound l.length [] .out l (Nat.le_refl _)
 unfold scanL
 simp only [List.length_nil, pend, wOf, cat, List.flatMap_nil] at this ⊢
 omega
end Go.Proofs.YtbjbpgmjijeppaaGreatDoor.Pl
set_option linter.unusedVariables false
set_option linter.unusedSimpArgs false
namespace Go.Proofs.YtbjbpgmjijeppaaGreatDoor.Pl
open Go.RowKit Go.Proofs.YtbjbpgmjijeppaaGreatDoorW.PrintWords Go.Proofs.YtbjbpgmjijeppaaGreatDoor.Fn

end Go.Proofs.YtbjbpgmjijeppaaGreatDoor.Pl
set_option linter.unusedVariables false
set_option linter.unusedSimpArgs false
namespace Go.Proofs.YtbjbpgmjijeppaaGreatDoor.Pl
open Go.RowKit Go.Proofs.YtbjbpgmjijeppaaGreatDoorW.PrintWords Go.Proofs.YtbjbpgmjijeppaaGreatDoor.Fn

/-! What is written is read again. -/
end Go.Proofs.YtbjbpgmjijeppaaGreatDoor.Pl
set_option linter.unusedVariables false
set_option linter.unusedSimpArgs false
namespace Go.Proofs.YtbjbpgmjijeppaaGreatDoor.Pl
open Go.RowKit Go.Proofs.YtbjbpgmjijeppaaGreatDoorW.PrintWords Go.Proofs.YtbjbpgmjijeppaaGreatDoor.Fn

/-! Layer 12: what is scanned: text bytes alone; quoted text is scanned again; two texts, side by side. -/
def okTok (t : Tok) : Prop := t.1 = 3 → ∃ c, t.2 = [c]
theorem stepOut_ok {acc : List Tok} {c : UInt8} {l : Bytes} {a : List Tok} {t : Sc} {r : Bytes} (h : stepOut acc c l = .inl (a, t, r)) (ha : ∀ x ∈ acc, okTok x) : ∀ x ∈ a, okTok x := by
  unfold stepOut at h
  repeat' split at h
  all_goals first
    | (cases h; done)
    | (cases h; exact ha)
    | (cases h
       intro x hx
       rcases List.mem_append.1 hx with h1 | h1
       · exact ha x h1
       · rw [List.mem_singleton.1 h1]; exact fun _ => ⟨_, rfl⟩)
theorem okTok_add {l : List Tok} {t : Tok} (h : ∀ x ∈ l, okTok x) (ht : okTok t) : ∀ x ∈ l ++ [t], okTok x := by
  intro x hx
  rcases List.mem_append.1 hx with h1 | h1
  · exact h x h1
  · rw [List.mem_singleton.1 h1]; exact ht
theorem step_ok {acc : List Tok} {st : Sc} {c : UInt8} {l : Bytes} {a : List Tok} {t : Sc} {r : Bytes} (h : step acc st c l = .inl (a, t, r)) (ha : ∀ x ∈ acc, okTok x) : ∀ x ∈ a, okTok x := by
  cases st with
  | out => exact stepOut_ok h ha
  | atom w =>
    unfold step at h
    simp only [] at h
    split at h
    · cases h; exact ha
    · exact stepOut_ok h (okTok_add ha (fun e => by cases e))
  | quot w q =>
    cases q <;> unfold step at h <;> simp only [] at h <;> repeat' split at h
    all_goals first
      | (cases h; done)
      | (cases h; exact ha)
      | (cases h; exact okTok_add ha (fun e => by cases e))
  | comm d q =>
    cases q <;> unfold step at h <;> simp only [] at h <;> (try unfold commAfter at h) <;> repeat' split at h
    all_goals first
      | (cases h; done)
      | (cases h; exact ha)
theorem scan_ok : ∀ (k : Nat) (acc : List Tok) (st : Sc) (l : Bytes), (∀ x ∈ acc, okTok x) → ∀ x ∈ (scan k acc st l).1, okTok x
  | k, acc, st, [], ha => by
    have e : scan k acc st [] = endOf acc st := by cases k <;> rfl
    rw [e]
    cases st with
    | out => exact ha
    | atom w => exact okTok_add ha (fun e => by cases e)
    | quot w b => intro t ht; cases ht
    | comm d b => intro t ht; cases ht
  | 0, acc, st, c :: l, ha => by intro t ht; cases ht
  | k + 1, acc, st, c :: l, ha => by
    rw [scan]
    cases hs : step acc st c l with
    | inr e => intro t ht; cases ht
    | inl x =>
      obtain ⟨a, t, r⟩ := x
      exact scan_ok k a t r (step_ok hs ha)
end Go.Proofs.YtbjbpgmjijeppaaGreatDoor.Pl
set_option linter.unusedVariables false
set_option linter.unusedSimpArgs false
namespace Go.Proofs.YtbjbpgmjijeppaaGreatDoor.Pl
open Go.RowKit Go.Proofs.YtbjbpgmjijeppaaGreatDoorW.PrintWords Go.Proofs.YtbjbpgmjijeppaaGreatDoor.Fn

/-! Layer 14: boxes, by one machine over tokens. -/
abbrev BoxL := Bytes × Bytes × Bytes
abbrev StL := (List Tok × List BoxL) × Int
def stopB (c : UInt8) : Bool := c == 44 || (c == 59 || (c == 58 || (c == 60 || c == 62)))
def stopT (t : Tok) : Bool := t.1 == 3 && (match t.2 with | [c] => stopB c | _ => false)
def nonT (t : Tok) : Bool := !stopT t
def nameL (l : List Tok) : Bytes := Lib.join ((l.takeWhile wordT).map (·.2)) [32]
def failM (e : Int) : StL := (([], []), e)
def addressM (nm : Bytes) (l : List Tok) (bx : List BoxL) : StL :=
 if (ofT (l.takeWhile nonT)).2.2 ≠ 0 then failM (ofT (l.takeWhile nonT)).2.2
 else if bx.length = 100 then failM 8
 else ((l.dropWhile nonT, bx ++ [(nm, bs (ofT (l.takeWhile nonT)).1, bs (ofT (l.takeWhile nonT)).2.1)]), 0)
def angleM (x : StL) : StL := if x.2 ≠ 0 then x else if headIs x.1.1 [62] = true then ((x.1.1.tail, x.1.2), 0) else failM 130
def mailboxM (l : List Tok) (bx : List BoxL) : StL :=
 if headIs (l.dropWhile wordT) [60] = true then angleM (addressM (nameL l) (l.dropWhile wordT).tail bx) else addressM [] l bx
def groupM : Nat → List Tok → List BoxL → StL
 | 0, _, _ => failM 130
 | k + 1, l, bx => if headIs l [59] = true then ((l.tail, bx), 0)
  else if (mailboxM l bx).2 ≠ 0 then mailboxM l bx
  else if headIs (mailboxM l bx).1.1 [59] = true then groupM k (mailboxM l bx).1.1 (mailboxM l bx).1.2
  else if headIs (mailboxM l bx).1.1 [44] = true ∧ headIs (mailboxM l bx).1.1.tail [59] = false then groupM k (mailboxM l bx).1.1.tail (mailboxM l bx).1.2
  else failM 130
def itemM (l : List Tok) (bx : List BoxL) : StL :=
 if l.takeWhile wordT ≠ [] ∧ headIs (l.dropWhile wordT) [58] = true then groupM ((l.dropWhile wordT).tail.length + 1) (l.dropWhile wordT).tail bx else mailboxM l bx
def readM : Nat → List Tok → List BoxL → List BoxL × Int
 | 0, _, _ => ([], 130)
 | k + 1, l, bx => if (itemM l bx).2 ≠ 0 then ([], (itemM l bx).2)
  else if (itemM l bx).1.1 = [] then ((itemM l bx).1.2, 0)
  else if headIs (itemM l bx).1.1 [44] = true then readM k (itemM l bx).1.1.tail (itemM l bx).1.2
  else ([], 130)
def readT (l : List Tok) : List BoxL × Int := readM (l.length + 1) l []
def readL (s : Bytes) : List BoxL × Int := if (scanL [] .out s).2 ≠ 0 then ([], (scanL [] .out s).2) else readT (scanL [] .out s).1

/-! what stands behind -/
def sepC (m : List Tok) : Prop := m = [] ∨ ∃ c y, m = (3, [c]) :: y ∧ (c = 44 ∨ c = 59)
def sepM (m : List Tok) : Prop := m = [] ∨ ∃ y, m = (3, [44]) :: y
theorem sepM.c {m : List Tok} (h : sepM m) : sepC m := by
 rcases h with h | ⟨y, h⟩
 ·exact .inl h
 ·exact .inr ⟨44, y, h, .inl rfl⟩
theorem span_app {α : Type} (p : α → Bool) (m : List α) (hm : m = [] ∨ ∃ t r, m = t :: r ∧ p t = false) : ∀ l : List α, (l ++ m).takeWhile p = l.takeWhile p ∧ (l ++ m).dropWhile p = l.dropWhile p ++ m
 | [] => by
  rcases hm with rfl | ⟨t, r, rfl, h⟩
  ·exact ⟨rfl, rfl⟩
  ·simp [List.takeWhile, List.dropWhile, h]
 | x :: l => by
  obtain ⟨h1, h2⟩ := span_app p m hm l
  rw [List.cons_append, List.takeWhile_cons, List.takeWhile_cons, List.dropWhile_cons, List.dropWhile_cons, h1, h2]
  cases p x <;> simp
theorem sepC_non {m : List Tok} (h : sepC m) : m = [] ∨ ∃ t r, m = t :: r ∧ nonT t = false := by
 rcases h with h | ⟨c, y, h, hc⟩
 ·exact .inl h
 ·refine .inr ⟨_, _, h, ?_⟩
  rcases hc with rfl | rfl <;> rfl
theorem sepC_word {m : List Tok} (h : sepC m) : m = [] ∨ ∃ t r, m = t :: r ∧ wordT t = false := by
 rcases h with h | ⟨c, y, h, hc⟩
 ·exact .inl h
 ·exact .inr ⟨_, _, h, rfl⟩
theorem headIs_sep {m : List Tok} (h : sepC m) (c : UInt8) (h1 : c ≠ 44) (h2 : c ≠ 59) : headIs m [c] = false := by
 rcases h with rfl | ⟨d, y, rfl, hd⟩
 ·rfl
 ·show isT (3, [d]) [c] = false
  unfold isT
  rcases hd with rfl | rfl
  ·simp [Ne.symm h1]
  ·simp [Ne.symm h2]
theorem headIs_app {m : List Tok} (h : sepC m) (c : UInt8) (h1 : c ≠ 44) (h2 : c ≠ 59) (l : List Tok) : headIs (l ++ m) [c] = headIs l [c] := by
 cases l with
 | nil => exact headIs_sep h c h1 h2
 | cons t l => rfl
theorem headIs_appM {m : List Tok} (h : sepM m) (c : UInt8) (h1 : c ≠ 44) (l : List Tok) : headIs (l ++ m) [c] = headIs l [c] := by
 cases l with
 | nil =>
  rcases h with rfl | ⟨y, rfl⟩
  ·rfl
  ·show isT (3, [44]) [c] = headIs [] [c]
   simp [isT, headIs, Ne.symm h1]
 | cons t l => rfl
theorem headIs_ne {l : List Tok} {s : Bytes} (h : headIs l s = true) : ∃ t r, l = t :: r ∧ isT t s = true := by
 cases l with
 | nil => cases h
 | cons t r => exact ⟨t, r, rfl, h⟩
theorem address_more {nm : Bytes} {l l' : List Tok} {bx bx' : List BoxL} (h : addressM nm l bx = ((l', bx'), 0)) :
  ∃ x : BoxL, bx' = bx ++ [x] ∧ l'.length < l.length ∧ ∀ (m : List Tok) (b : List BoxL), sepC m → b.length < 100 → addressM nm (l ++ m) b = ((l' ++ m, b ++ [x]), 0) := by
 unfold addressM at h
 by_cases h0 : (ofT (l.takeWhile nonT)).2.2 ≠ 0
 ·rw [if_pos h0] at h; exact absurd (show (ofT (l.takeWhile nonT)).2.2 = 0 from congrArg Prod.snd h) h0
 ·rw [if_neg h0] at h
  by_cases h1 : bx.length = 100
  ·rw [if_pos h1] at h; cases h
  ·rw [if_neg h1] at h
   cases h
   refine ⟨_, rfl, ?_, fun m b hm hb => ?_⟩
   ·cases l with
    | nil => exact absurd (show (ofT (List.takeWhile nonT [])).2.2 ≠ 0 by decide) h0
    | cons t r =>
     rw [List.takeWhile_cons] at h0
     rw [List.dropWhile_cons]
     cases ht : nonT t with
     | false => rw [ht] at h0; exact absurd (show (ofT []).2.2 ≠ 0 by decide) h0
     | true => simp only [if_true, List.length_cons]; have := (List.dropWhile_suffix nonT (l := r)).length_le; omega
   ·obtain ⟨e1, e2⟩ := span_app nonT m (sepC_non hm) l
    unfold addressM
    rw [e1, e2, if_neg h0, if_neg (by omega)]
theorem mailbox_more {l l' : List Tok} {bx bx' : List BoxL} (h : mailboxM l bx = ((l', bx'), 0)) :
  ∃ x : BoxL, bx' = bx ++ [x] ∧ l'.length < l.length ∧ ∀ (m : List Tok) (b : List BoxL), sepC m → b.length < 100 → mailboxM (l ++ m) b = ((l' ++ m, b ++ [x]), 0) := by
 unfold mailboxM at h
 by_cases h0 : headIs (l.dropWhile wordT) [60] = true
 ·rw [if_pos h0] at h
  unfold angleM at h
  obtain ⟨t, r, hr, ht⟩ := headIs_ne h0
  rw [hr, List.tail_cons] at h
  obtain ⟨⟨⟨la, ba⟩, ea⟩, hA⟩ : ∃ x, addressM (nameL l) r bx = x := ⟨_, rfl⟩
  rw [hA] at h
  by_cases h1 : ea ≠ 0
  ·rw [if_pos h1] at h; cases h; exact absurd rfl h1
  ·rw [if_neg h1] at h
   have h1' : ea = 0 := by simpa using h1
   subst h1'
   by_cases h2 : headIs la [62] = true
   ·rw [if_pos h2] at h
    cases h
    obtain ⟨x, rfl, hlt, hm⟩ := address_more hA
    obtain ⟨t2, r2, hr2, ht2⟩ := headIs_ne h2
    have hlen : (l.dropWhile wordT).length ≤ l.length := (List.dropWhile_suffix wordT (l := l)).length_le
    rw [hr, List.length_cons] at hlen
    refine ⟨x, rfl, by show la.tail.length < l.length; rw [List.length_tail]; omega, fun m b hs hb => ?_⟩
    obtain ⟨e1, e2⟩ := span_app wordT m (sepC_word hs) l
    unfold mailboxM
    rw [e2, headIs_app hs 60 (by decide) (by decide), if_pos h0, hr, List.cons_append, List.tail_cons, show nameL (l ++ m) = nameL l by unfold nameL; rw [e1], hm m b hs hb]
    unfold angleM
    rw [if_neg (by simp), headIs_app hs 62 (by decide) (by decide), if_pos h2, hr2]
    rfl
   ·rw [if_neg h2] at h; cases h
 ·rw [if_neg h0] at h
  obtain ⟨x, rfl, hlt, hm⟩ := address_more h
  refine ⟨x, rfl, hlt, fun m b hs hb => ?_⟩
  obtain ⟨e1, e2⟩ := span_app wordT m (sepC_word hs) l
  unfold mailboxM
  rw [e2, headIs_app hs 60 (by decide) (by decide), if_neg h0]
  exact hm m b hs hb
theorem group_more : ∀ (k : Nat) {l l' : List Tok} {bx bx' : List BoxL}, groupM k l bx = ((l', bx'), 0) →
  ∃ d : List BoxL, bx' = bx ++ d ∧ l'.length < l.length ∧ ∀ (k' : Nat) (m : List Tok) (b : List BoxL), sepM m → l.length < k' → b.length + d.length ≤ 100 → groupM k' (l ++ m) b = ((l' ++ m, b ++ d), 0)
 | 0, l, l', bx, bx', h => by cases h
 | k + 1, l, l', bx, bx', h => by
  rw [groupM] at h
  by_cases c1 : headIs l [59] = true
  ·rw [if_pos c1] at h
   cases h
   obtain ⟨t, r, rfl, ht⟩ := headIs_ne c1
   refine ⟨[], by simp, by simp, fun k' m b hs hk hb => ?_⟩
   obtain ⟨k', rfl⟩ : ∃ j, k' = j + 1 := ⟨k' - 1, by omega⟩
   rw [groupM, if_pos (show headIs (t :: r ++ m) [59] = true from c1)]
   simp
  rw [if_neg c1] at h
  obtain ⟨⟨⟨l1, b1⟩, e1⟩, hA⟩ : ∃ x, mailboxM l bx = x := ⟨_, rfl⟩
  rw [hA] at h
  by_cases c2 : e1 ≠ 0
  ·rw [if_pos c2] at h; cases h; exact absurd rfl c2
  rw [if_neg c2] at h
  have c2' : e1 = 0 := by simpa using c2
  subst c2'
  obtain ⟨x, rfl, hlt, hm⟩ := mailbox_more hA
  simp only [] at h
  by_cases c3 : headIs l1 [59] = true
  ·rw [if_pos c3] at h
   obtain ⟨d, rfl, hl2, hg⟩ := group_more k h
   refine ⟨x :: d, by simp, by omega, fun k' m b hs hk hb => ?_⟩
   simp only [List.length_cons] at hb
   obtain ⟨k', rfl⟩ : ∃ j, k' = j + 1 := ⟨k' - 1, by omega⟩
   rw [groupM, headIs_appM hs 59 (by decide), if_neg c1, hm m b hs.c (by omega)]
   simp only []
   rw [if_neg (by simp), headIs_appM hs 59 (by decide), if_pos c3, hg k' m _ hs (by omega) (by rw [List.length_append, List.length_singleton]; omega)]
   simp
  rw [if_neg c3] at h
  by_cases c4 : headIs l1 [44] = true ∧ headIs l1.tail [59] = false
  ·rw [if_pos c4] at h
   obtain ⟨t, r, rfl, ht⟩ := headIs_ne c4.1
   obtain ⟨d, rfl, hl2, hg⟩ := group_more k h
   simp only [List.tail_cons, List.length_cons] at hl2 c4 hlt hg
   refine ⟨x :: d, by simp, by omega, fun k' m b hs hk hb => ?_⟩
   simp only [List.length_cons] at hb
   obtain ⟨k', rfl⟩ : ∃ j, k' = j + 1 := ⟨k' - 1, by omega⟩
   rw [groupM, headIs_appM hs 59 (by decide), if_neg c1, hm m b hs.c (by omega)]
   refine (if_neg (by simp)).trans ((if_neg (show ¬ headIs (t :: (r ++ m)) [59] = true from c3)).trans ((if_pos (show headIs (t :: (r ++ m)) [44] = true ∧ headIs (r ++ m) [59] = false from ⟨c4.1, by rw [headIs_appM hs 59 (by decide)]; exact c4.2⟩)).trans ?_))
   show groupM k' (r ++ m) (b ++ [x]) = _
   rw [hg k' m _ hs (by omega) (by rw [List.length_append, List.length_singleton]; omega)]
   simp
  ·rw [if_neg c4] at h; cases h
theorem item_more {l l' : List Tok} {bx bx' : List BoxL} (h : itemM l bx = ((l', bx'), 0)) :
  ∃ d : List BoxL, bx' = bx ++ d ∧ l'.length < l.length ∧ ∀ (m : List Tok) (b : List BoxL), sepM m → b.length + d.length ≤ 100 → itemM (l ++ m) b = ((l' ++ m, b ++ d), 0) := by
 unfold itemM at h
 by_cases c1 : l.takeWhile wordT ≠ [] ∧ headIs (l.dropWhile wordT) [58] = true
 ·rw [if_pos c1] at h
  obtain ⟨t, r, hr, ht⟩ := headIs_ne c1.2
  rw [hr, List.tail_cons] at h
  obtain ⟨d, rfl, hl, hg⟩ := group_more _ h
  have hlen : (l.dropWhile wordT).length ≤ l.length := (List.dropWhile_suffix wordT (l := l)).length_le
  rw [hr, List.length_cons] at hlen
  refine ⟨d, rfl, by omega, fun m b hs hb => ?_⟩
  obtain ⟨e1, e2⟩ := span_app wordT m (sepC_word hs.c) l
  unfold itemM
  rw [e1, e2, headIs_appM hs 58 (by decide), if_pos c1, hr, List.cons_append, List.tail_cons]
  exact hg _ m b hs (by rw [List.length_append]; omega) hb
 ·rw [if_neg c1] at h
  obtain ⟨x, rfl, hlt, hm⟩ := mailbox_more h
  refine ⟨[x], rfl, hlt, fun m b hs hb => ?_⟩
  obtain ⟨e1, e2⟩ := span_app wordT m (sepC_word hs.c) l
  unfold itemM
  rw [e1, e2, headIs_appM hs 58 (by decide), if_neg c1]
  exact hm m b hs.c (by simp only [List.length_cons, List.length_nil] at hb; omega)
end Go.Proofs.YtbjbpgmjijeppaaGreatDoor.Pl
set_option linter.unusedVariables false
set_option linter.unusedSimpArgs false
namespace Go.Proofs.YtbjbpgmjijeppaaGreatDoor.Pl
open Go.RowKit Go.Proofs.YtbjbpgmjijeppaaGreatDoorW.PrintWords Go.Proofs.YtbjbpgmjijeppaaGreatDoor.Fn

/-! Layer 14: what is shown is read again. -/
theorem join_one (p s : Bytes) : Lib.join [p] s = p := by simp [Lib.join, List.intercalate]
theorem join_cons2 (p q : Bytes) (r : List Bytes) (s : Bytes) : Lib.join (p :: q :: r) s = p ++ s ++ Lib.join (q :: r) s := by simp [Lib.join, List.intercalate]
theorem join_nil (s : Bytes) : Lib.join [] s = [] := by simp [Lib.join, List.intercalate]
/-! the tokens of a box -/
theorem span_all {α : Type} (p : α → Bool) (m : List α) (hm : m = [] ∨ ∃ t r, m = t :: r ∧ p t = false) (l : List α) (h : ∀ t ∈ l, p t = true) : (l ++ m).takeWhile p = l ∧ (l ++ m).dropWhile p = m := by
 obtain ⟨h1, h2⟩ := span_app p m hm l
 have e1 : l.takeWhile p = l := by
  clear h1 h2
  induction l with
  | nil => rfl
  | cons x l ih => rw [List.takeWhile_cons, h x (by simp)]; simp only [if_true]; rw [ih (fun t ht => h t (by simp [ht]))]
 have e2 : l.dropWhile p = [] := by
  clear h1 h2
  induction l with
  | nil => rfl
  | cons x l ih => rw [List.dropWhile_cons, h x (by simp)]; simp only [if_true]; exact ih (fun t ht => h t (by simp [ht])) (by rw [List.takeWhile_cons, h x (by simp)] at e1; simpa using e1)
 rw [h1, h2, e1, e2]
 exact ⟨rfl, rfl⟩
/-! shown and read -/
/-! what is read is good -/
/-! how many there are -/
end Go.Proofs.YtbjbpgmjijeppaaGreatDoor.Pl
set_option linter.unusedVariables false
namespace Go.Proofs.YtbjbpgmjijeppaaGreatDoor
open Go.ChangeShapes Go.WideShapes Go.ChangeAt Go.RowKit

/-! What all rows of this seat share: a world that meets the condition; the premises as the walks want them. -/
theorem own : ownKnob Tryz.prog.godebug = none := by kernel_rfl
theorem laidOut : laidOutB Tryz.prog = true := by kernel_rfl
def listed : List (String × DataW Unit) := [("unicode/utf8.acceptRanges", Rows.laid_unicode_utf8_acceptRanges), ("unicode/utf8.first", Rows.laid_unicode_utf8_first)]
noncomputable def laidWorld (os : Os) : World :=
 let w0 := World.holding Tryz.prog os ⟨#[], #[], []⟩
 let put (h : Array Obj) (g : Nat) (cs : Array Value) : Array Obj := h.modify g fun
  | .cells _ t frozen => .cells cs t frozen
  | o => o
 let h1 := put w0.heap 1 (Lib.firstTab.map fun z => Value.int .u8 z).toArray
 let h2 := put h1 2 ((List.range 16).flatMap fun i => [Value.int .u8 (Lib.accLo i), Value.int .u8 (Lib.accHi i)]).toArray
 { w0 with heap := h2 }
set_option maxRecDepth 100000 in
theorem laid_met (os : Os) (args : Array Value) : laidMetH Tryz.prog listed ((laidWorld os).forCall (fun _ _ => 0) ⟨#[], args, []⟩).memory :=
 laidMetH_of_parts (laidMet_of_run' 8 (by kernel_rfl) (by kernel_rfl)) (by kernel_rfl)

theorem lift_both {H : Type} {enc : TypeId × Value → H} {a : Assume} {C : Checked} {os : Os} {f : FuncId} {fn : Func} {s : ChangeSpec} {conds : List PathCond} {apart fresh handsOn again : Bool} {X : World → Array Value → Prop}
  (hX : ∀ (w w' : World) (args : Array Value), w.heap = w'.heap → X w args → X w' args)
  (own : ownKnob C.prog.godebug = none) (started : os.Started) (noInit : C.prog.inits.idxOf? f = none) (hfn : C.prog.funcs[f]? = some fn)
  (witness : ∃ (w : World) (tape : Tape) (i : Input), w.os = os ∧ (w.forCall tape i).Shaped C.prog ∧ i.vars = [] ∧ Input.okWide C.prog (w.forCall tape i) .any w.heap.size f i ∧
   ((s.pre enc C.prog fn conds apart (w.forCall tape i).memory i.args ∧ X (w.forCall tape i).memory i.args) ∧ sizedMet enc C.prog fn (OpenSpec.ofChange s) apart (w.forCall tape i).memory i.args) ∧ a.holds C.prog (lone (Frame.enter C.prog f i.args .normal) [] (w.forCall tape i)))
  (contract : ∀ (W : World) (base : Nat) (args : Array Value) (ds gs : List (DataW H)) (before : List MemPlace),
   (∀ (j : Nat) t v, fn.params[j]? = some t → args[j]? = some v → Value.okWide C.prog W .any base t v) →
   DataW.Whole enc C.prog fn.params.toList s.vars apart W args.toList ds gs before →
   (DataW.weightsEach C.prog (fn.params.toList ++ s.plain.varTypes C.prog) (ds ++ gs)).all (· ≤ reachBytes) = true → X W args → W.ShapedOpen C.prog →
   Calls C.prog f args W fun e W' => ∃ v, e = .returned v ∧ s.post enc C.prog fn apart fresh handsOn again W args v W') :
  ReturnsInHanded a C os f .any (fun w args => (s.pre enc C.prog fn conds apart w args ∧ X w args) ∧ sizedMet enc C.prog fn (OpenSpec.ofChange s) apart w args) (s.post enc C.prog fn apart fresh handsOn again) := by
 refine returnsInHanded_of_calls own started noInit witness ?_
 intro w tape i _ hsh _ hok hpre _
 obtain ⟨_, _, _, fn', hfn', _, _, _, _, hval⟩ := hok
 have e : fn' = fn := Option.some.inj (hfn'.symm.trans hfn)
 subst e
 obtain ⟨⟨⟨ds, gs, before, hw, _⟩, hx⟩, hz⟩ := hpre
 have hw' := DataW.Whole.of_heap (w' := w.forCall tape i) (by rfl) hw
 refine (contract (w.forCall tape i) w.heap.size i.args ds gs before hval hw' (hz.weights hw) (hX _ _ _ (by rfl) hx) hsh).mono fun e W' ⟨v, he, hp⟩ => ?_
 subst he
 exact ChangeSpec.post_blind hp
end Go.Proofs.YtbjbpgmjijeppaaGreatDoor
set_option linter.unusedVariables false
namespace Go.Proofs.YtbjbpgmjijeppaaGreatDoor.Fn
open Go.RowKit Go.Proofs.YtbjbpgmjijeppaaGreatDoorW.PrintWords

/-! The package variables that the walks read: unicode/utf8's tables; internal/bytealg.MaxLen, some number. -/
structure Glob (w : World) : Prop where
 tabs : Lib.Utf8Tabs 1 2 w
 max : ∃ m : Int, w.cell? ⟨0, 0, none⟩ = some (.int .i64 m)
theorem cell_inside {w : World} {a : Addr} {v : Value} (h : w.cell? a = some v) : a.block < w.heap.size := by
 obtain ⟨o, ho, _⟩ := not_walk_of_cell h
 exact (Array.getElem?_eq_some_iff.1 ho).1
theorem Glob.below {w W : World} (h : Glob w) (hb : Below w.heap.size w W) : Glob W := by
 obtain ⟨m, hm⟩ := h.max
 exact ⟨Utf8Tabs_below h.tabs hb, m, (hb.cell (cell_inside hm)).trans hm⟩
theorem Glob.drawn {w W : World} (h : Glob w) (hd : Drawn0 w W) : Glob W := h.below hd.below
theorem glob_of {W : World} (hL : laidMetH Tryz.prog listed W) (hS : W.ShapedOpen Tryz.prog) : Glob W := by
 have hL' : laidMet Tryz.prog listed W := hL
 have h1 : Lib.VarReads Tryz.prog W "unicode/utf8.first" Lib.firstData := by
  have := Lib.laidMet.reads hL' (n := "unicode/utf8.first") (d := Rows.laid_unicode_utf8_first) (.tail _ (.head _))
  rw [show Rows.laid_unicode_utf8_first = Lib.firstData from Pinned.utf8First_eq] at this
  exact this
 have h2 : Lib.VarReads Tryz.prog W "unicode/utf8.acceptRanges" Lib.acceptData := Lib.laidMet.reads hL' (.head _)
 refine ⟨utf8Tabs_of_reads (ρ := Tryz.lays260_ren) Tryz.lays260 ⟨by kernel_rfl, by kernel_rfl, by kernel_rfl, by kernel_rfl, by kernel_rfl, by kernel_rfl, by kernel_rfl⟩ h1 h2, ?_⟩
 exact cell_of_shapedOpen_int (P := Tryz.prog) (g := 0) (t := 3) (zero := #[.int .i64 0]) hS (of_decide_eq_true (by kernel_rfl)) (by kernel_rfl) rfl (by kernel_rfl) (by kernel_rfl) Tryz.underlying3
end Go.Proofs.YtbjbpgmjijeppaaGreatDoor.Fn
set_option linter.unusedVariables false
namespace Go.Proofs.YtbjbpgmjijeppaaGreatDoor.Fn
open Go.RowKit Go.Proofs.YtbjbpgmjijeppaaGreatDoorW.PrintWords

def strings_Contains.f (a0 a1 : ByteArray) : Option Bool := if a0.size < 4294967281 then some (Lib.contains a0.data.toList a1.data.toList) else none
theorem strings_Contains.calls (a0 a1 : ByteArray) (r : Bool) (w : World) (hG : Glob w) (h : strings_Contains.f a0 a1 = some r) :
  Calls Tryz.prog 152 #[.string a0, .string a1] w fun e w' => e = .returned (.bool r) ∧ Below w.heap.size w w' := by
 unfold strings_Contains.f at h
 by_cases hs : a0.size < 4294967281
 ·rw [if_pos hs] at h
  have HR := Option.some.inj h
  subst HR
  obtain ⟨m, hm⟩ := hG.max
  refine (Tryz.strings_Contains a0 a1 m w hs hm).mono ?_
  rintro e w' ⟨rfl, rfl⟩
  exact ⟨rfl, Below.refl _ _⟩
 ·rw [if_neg hs] at h
  exact absurd h (by simp)
end Go.Proofs.YtbjbpgmjijeppaaGreatDoor.Fn
namespace Go.Proofs.YtbjbpgmjijeppaaGreatDoor.Fn
open Go.RowKit Go.Proofs.YtbjbpgmjijeppaaGreatDoorW.PrintWords Go.Proofs.YtbjbpgmjijeppaaGreatDoorW.PrintLast Go.Proofs.YtbjbpgmjijeppaaGreatDoorW.PrintMore
attribute [local go_sem] max2_int min2_int max_two min_two max_three min_three max_four min_four
set_option linter.unusedVariables false
set_option linter.unusedSimpArgs false

def mbx_stops.f (a0_0 : Int) (a0_1 : ByteArray) : Option (Bool) := if a0_0 = 3 then ((strings_Contains.f (⟨#[44, 59, 58, 60, 62]⟩ : ByteArray) a0_1).bind fun t207 => (some t207)) else (some false)
set_option maxHeartbeats 8000000 in
set_option maxRecDepth 100000 in
theorem mbx_stops.calls (a0_0 : Int) (a0_1 : ByteArray) (r : Bool) (w : World) (hG : Glob w) (h : mbx_stops.f a0_0 a0_1 = some r) :
  Calls Tryz.prog 148 #[.agg #[.int .i64 a0_0, .string a0_1]] w fun e w' => e = .returned (.bool r) ∧ Below w.heap.size w w' := by
 have hu160 := Tryz.underlying160; have HB := Aside0.mk (Below.refl w.heap.size w); have H : (if a0_0 = 3 then ((strings_Contains.f (⟨#[44, 59, 58, 60, 62]⟩ : ByteArray) a0_1).bind fun t207 => (some t207)) else (some false)) = some r := h; clear h
 by_cases c2 : a0_0 = 3
 ·rw [if_pos c2] at H; have c2b0 : (a0_0 == 3) = true := beq_iff_eq.mpr c2; have c2b1 : (a0_0 != 3) = false := bne_eq_false_iff_eq.mpr c2; clear c2; replace H := Option.bind_eq_some_iff.mp H; obtain ⟨t207, A30, H⟩ := H; replace H : (some t207) = some r := H; have A3 := Aside0.mk A30; clear A30; obtain rfl := Option.some.inj H
  go_enter Tryz.func148, Tryz.ntmps148
  go_wp2_with (first | ((with_reducible refine gate_dst (N := 1) rfl ?_); refine box_event ?hg (N := 1) ?hd (cs := #[.int .i64 a0_0, .string a0_1]) (t := 160) ?hr ?_; (case hd => rfl); (case hg => rfl); (case hr => first | (go_simp; done) | (go_simp; rfl)); intro gb206 hg w4 hbox hb; have n0_ := Aside0.mk (below_step bw hb); have n1_ := Aside0.mk (hbox); have n2_ := Aside0.mk ((by rw [hg]; exact (below_size bw) : w.heap.size ≤ gb206)); have n3_ := Aside0.mk ((by rw [hg]; exact (below_size bw) : w.heap.size ≤ gb206)); clear HB; have HB := n0_; have BK206 := n1_; have GW206 := n2_; have GE206 := n3_; clear n0_ n1_ n2_ n3_; clear hb hbox hg; have hcz5_0 : w4.cell? ⟨gb206, 0, none⟩ = some (.int .i64 a0_0) := (blk_cell BK206.out 0).trans rfl; have hcz5_1 : w4.cell? ⟨gb206, 1, none⟩ = some (.string a0_1) := (blk_cell BK206.out 1).trans rfl; have hfz5_0 := blk_frozen BK206.out 0; have hfz5_1 := blk_frozen BK206.out 1) | (go_at_call 152; (with_reducible refine (strings_Contains.calls (hG := by first | exact hG | exact Glob.below hG (by first | exact HB.out | (repeat (first | (with_reducible first | exact HB.out | apply below_alloc | apply pw_below_drewN | apply below_drew1 | refine below_set ?_ GE206.out) | exact HB.out))) | exact Glob.drawn hG (d0)) (⟨#[44, 59, 58, 60, 62]⟩ : ByteArray) a0_1 t207 _ A3.out).mono ?_); rintro e w6 ⟨rfl, hb⟩; have n0_ := Aside0.mk (blk_below (g := gb206) (o := .cells #[.int .i64 a0_0, .string a0_1] 160 (0, 0)) bk hb); have n1_ := Aside0.mk (below_step bwS hb); clear BK206; clear HB; have BK206 := n0_; have HB := n1_; clear n0_ n1_; (try clear hb); (try clear hb2); (try clear hk); (try clear hi)))
  go_ret
  exact ⟨ew, bwS⟩
 ·rw [if_neg c2] at H; have c2b0 : (a0_0 == 3) = false := beq_eq_false_iff_ne.mpr c2; have c2b1 : (a0_0 != 3) = true := bne_iff_ne.mpr c2; obtain rfl := Option.some.inj H
  go_enter Tryz.func148, Tryz.ntmps148
  go_wp2_with (first | ((with_reducible refine gate_dst (N := 1) rfl ?_); refine box_event ?hg (N := 1) ?hd (cs := #[.int .i64 a0_0, .string a0_1]) (t := 160) ?hr ?_; (case hd => rfl); (case hg => rfl); (case hr => first | (go_simp; done) | (go_simp; rfl)); intro gb206 hg w7 hbox hb; have n0_ := Aside0.mk (below_step bw hb); have n1_ := Aside0.mk (hbox); have n2_ := Aside0.mk ((by rw [hg]; exact (below_size bw) : w.heap.size ≤ gb206)); have n3_ := Aside0.mk ((by rw [hg]; exact (below_size bw) : w.heap.size ≤ gb206)); clear HB; have HB := n0_; have BK206 := n1_; have GW206 := n2_; have GE206 := n3_; clear n0_ n1_ n2_ n3_; clear hb hbox hg; have hcz8_0 : w7.cell? ⟨gb206, 0, none⟩ = some (.int .i64 a0_0) := (blk_cell BK206.out 0).trans rfl; have hcz8_1 : w7.cell? ⟨gb206, 1, none⟩ = some (.string a0_1) := (blk_cell BK206.out 1).trans rfl; have hfz8_0 := blk_frozen BK206.out 0; have hfz8_1 := blk_frozen BK206.out 1))
  go_ret
  exact ⟨ew, bwS⟩

end Go.Proofs.YtbjbpgmjijeppaaGreatDoor.Fn
set_option linter.unusedVariables false
set_option linter.unusedSimpArgs false
namespace Go.Proofs.YtbjbpgmjijeppaaGreatDoor.Fn
open Go.RowKit Go.Proofs.YtbjbpgmjijeppaaGreatDoorW.PrintWords Go.Proofs.YtbjbpgmjijeppaaGreatDoorW.PrintLast Go.Proofs.YtbjbpgmjijeppaaGreatDoorW.PrintMore
attribute [local go_sem high] eqA160

/-! Layer 14: the reader, in memory: its block is the newest of W0; the tokens are W0's; the boxes are its own. -/
def toBox (x : Pl.BoxL) : S53 := ⟨Pl.str x.1, ⟨Pl.str x.2.1, Pl.str x.2.2⟩⟩
structure Small (l : List Pl.Tok) : Prop where
 len : l.length ≤ 50000
 sum : (Pl.cat l).length ≤ 50000
 ok : ∀ t ∈ l, Pl.okTok t
structure RS (W0 w : World) (l : List Pl.Tok) (bx : List Pl.BoxL) : Prop where
 out : ∃ (A : Option Addr) (c : Nat) (v : Value), w.heap[W0.heap.size]? = some (.cells #[.slice A l.length c, v] 146 (0, 0)) ∧ Kd.C k160 W0 A l.length (l.map Pl.tok142) ∧ l.length ≤ c ∧ Kd.R k53 53 w (W0.heap.size + 1) (fun _ => True) v (bx.map toBox)
 below : Below W0.heap.size W0 w
 small : Small l
 many : bx.length ≤ 100
 glob : Glob W0
theorem RS.lt {W0 w : World} {l : List Pl.Tok} {bx : List Pl.BoxL} (h : RS W0 w l bx) : W0.heap.size < w.heap.size := by
 obtain ⟨A, c, v, hb, _⟩ := h.out
 exact blk_lt hb
theorem RS.keep {W0 w w' : World} {l : List Pl.Tok} {bx : List Pl.BoxL} (h : RS W0 w l bx) (hb : Below w.heap.size w w') : RS W0 w' l bx := by
 obtain ⟨⟨A, c, v, h1, h2, h3, h4⟩, h5, h6, h7, h8⟩ := h
 exact ⟨⟨A, c, v, (hb.block _ (blk_lt h1)).trans h1, h2, h3, Kd.R_below h4 hb⟩, h5.trans (hb.mono h5.size), h6, h7, h8⟩
theorem RS.globw {W0 w : World} {l : List Pl.Tok} {bx : List Pl.BoxL} (h : RS W0 w l bx) : Glob w := h.glob.below h.below
theorem tok_cell {W0 w : World} {A : Option Addr} {l : List Pl.Tok} (h : Kd.C k160 W0 A l.length (l.map Pl.tok142)) (hB : Below W0.heap.size W0 w) {i : Nat} {t : Pl.Tok} {r : List Pl.Tok} (hd : l.drop i = t :: r) :
  ∃ ad, A = some ad ∧ w.cell? (ad.add (i * 2)) = some (.int .i64 t.1) ∧ w.cell? ⟨(ad.add (i * 2)).block, (ad.add (i * 2)).off + 1, none⟩ = some (.string (Pl.str t.2)) := by
 have hi : i < l.length := by
  rcases Nat.lt_or_ge i l.length with h' | h'
  ·exact h'
  ·rw [List.drop_of_length_le h'] at hd; cases hd
 obtain ⟨ad, e, h0, h1⟩ := at_T160 h (i : Int) (by omega) (by omega)
 have hr : rd_T160 (l.map Pl.tok142) (i : Int) = Pl.tok142 t := by
  unfold rd_T160
  have h3 : l[i]? = some t := by
   have := congrArg List.head? hd
   rw [List.head?_drop] at this
   exact this
  rw [Int.toNat_natCast, List.getD_eq_getElem?_getD, List.getElem?_map, h3]
  rfl
 rw [hr] at h0 h1
 rw [Int.toNat_natCast] at h0 h1
 exact ⟨ad, e, pw_cell_below hB h0, pw_cell_below hB h1⟩
set_option maxHeartbeats 4000000 in
set_option maxRecDepth 100000 in
theorem at_calls (W0 w : World) (l : List Pl.Tok) (bx : List Pl.BoxL) (s : ByteArray) (h : RS W0 w l bx) :
  Calls Tryz.prog 127 #[.pointer (some ⟨W0.heap.size, 0, none⟩), .string s] w fun e w' => e = .returned (.bool (Pl.headIs l (Pl.bs s))) ∧ w' = w := by
 obtain ⟨⟨A, c, v, hb, hC, hc, hR⟩, hB, hS, hM, hG⟩ := h
 have hu := Tryz.underlying160
 have hc0 : w.cell? ⟨W0.heap.size, 0, none⟩ = some (.slice A l.length c) := (blk_cell hb 0).trans rfl
 cases l with
 | nil =>
  clear hb hC hR hB hS hM hG
  generalize W0.heap.size = R at hc0 ⊢
  go_enter Tryz.func127, Tryz.ntmps127
  go_wp2
  go_ret
  exact ⟨rfl, rfl⟩
 | cons t r =>
  obtain ⟨ad, rfl, h0, h1⟩ := tok_cell hC hB (i := 0) (t := t) (r := r) rfl
  rw [Nat.zero_mul, Addr.add_zero'] at h0 h1
  clear hb hC hR hB hS hM hG
  generalize W0.heap.size = R at hc0 ⊢
  have c1 : decide ((0 : Int) < ((t :: r).length : Int)) = true := decide_eq_true (by simp only [List.length_cons]; omega)
  have c2 : ((0 : Int) < ((t :: r).length : Int)) = True := eq_true (by simp only [List.length_cons]; omega)
  have c3 : (0 < (t :: r).length) = True := eq_true (by simp)
  generalize (t :: r).length = n at hc0 hc c1 c2 c3 ⊢
  have hres : Pl.headIs (t :: r) (Pl.bs s) = (t.1 == 3 && ((Pl.str t.2).toList == s.toList)) := by
   show Pl.isT t (Pl.bs s) = _
   unfold Pl.isT
   rw [Pl.toList_str, Pl.toList_bs]
  rw [hres]
  go_enter Tryz.func127, Tryz.ntmps127
  go_wp2
  go_ret
  exact ⟨rfl, rfl⟩
theorem RS.cut {W0 w : World} {l : List Pl.Tok} {bx : List Pl.BoxL} {A : Option Addr} {c : Nat} {v : Value} (hb : w.heap[W0.heap.size]? = some (.cells #[.slice A l.length c, v] 146 (0, 0))) (hC : Kd.C k160 W0 A l.length (l.map Pl.tok142)) (hc : l.length ≤ c) (hR : Kd.R k53 53 w (W0.heap.size + 1) (fun _ => True) v (bx.map toBox))
  (hB : Below W0.heap.size W0 w) (hS : Small l) (hM : bx.length ≤ 100) (hG : Glob W0) (m : Nat) (hm : m ≤ l.length) (A' : Option Addr) (n' c' : Nat) (hA : A' = if c = m then A else A.map (·.add (m * 2))) (hn : n' = l.length - m) (hc' : c' = c - m) :
  RS W0 (w.setCell ⟨W0.heap.size, 0, none⟩ (.slice A' n' c')) (l.drop m) bx := by
 subst hA hn hc'
 have h1 := Kd.C_drop (c := c) (m := m) (show Kd.C k160 W0 A (l.map Pl.tok142).length (l.map Pl.tok142) by rw [List.length_map]; exact hC) (by rw [List.length_map]; exact hm) (by rw [List.length_map]; exact hc)
 rw [← List.map_drop, List.length_map] at h1
 refine ⟨⟨_, c - m, v, ?_, h1, by rw [List.length_drop]; omega, ?_⟩, hB.setCell (p := ⟨W0.heap.size, 0, none⟩) (Nat.le_refl _) _, ⟨?_, ?_, ?_⟩, hM, hG⟩
 ·have := blk_put hb 0 (.slice (if c = m then A else A.map (·.add (m * 2))) (l.length - m) (c - m)) rfl
  rw [List.length_drop]
  exact this
 ·exact Kd.R_mono (Kd.R_far (p := ⟨W0.heap.size, 0, none⟩) (Kd.R_bound hR) (fun k hk => by show k ≠ W0.heap.size; have := hk.2.1; omega) _) (fun _ _ => trivial)
 ·have := hS.len
  rw [List.length_drop]; omega
 ·have h2 := hS.sum
  have h3 : Pl.cat l = Pl.cat (l.take m) ++ Pl.cat (l.drop m) := by rw [← Pl.cat_app, List.take_append_drop]
  rw [h3, List.length_append] at h2
  omega
 ·exact fun t ht => hS.ok t (List.mem_of_mem_drop ht)
set_option maxHeartbeats 4000000 in
set_option maxRecDepth 100000 in
theorem follows_calls (W0 w : World) (l : List Pl.Tok) (bx : List Pl.BoxL) (n : Nat) (s : ByteArray) (h : RS W0 w l bx) :
  Calls Tryz.prog 124 #[.pointer (some ⟨W0.heap.size, 0, none⟩), .int .i64 n, .string s] w fun e w' => e = .returned (.bool (Pl.headIs (l.drop n) (Pl.bs s))) ∧ w' = w := by
 obtain ⟨⟨A, c, v, hb, hC, hc, hR⟩, hB, hS, hM, hG⟩ := h
 have hu := Tryz.underlying160
 have hc0 : w.cell? ⟨W0.heap.size, 0, none⟩ = some (.slice A l.length c) := (blk_cell hb 0).trans rfl
 cases hd : l.drop n with
 | nil =>
  have hl : l.length ≤ n := by
   have := congrArg List.length hd
   rw [List.length_drop, List.length_nil] at this
   omega
  have c1 : decide ((n : Int) < (l.length : Int)) = false := decide_eq_false (by omega)
  have c2 : decide (n < l.length) = false := decide_eq_false (by omega)
  clear hb hC hR hB hS hM hG hl
  generalize W0.heap.size = R at hc0 ⊢
  generalize l.length = ln at hc0 c1 c2 ⊢
  go_enter Tryz.func124, Tryz.ntmps124
  go_wp2
  go_ret
  exact ⟨rfl, rfl⟩
 | cons t r =>
  obtain ⟨ad, rfl, h0, h1⟩ := tok_cell hC hB hd
  have hl : n < l.length := by
   have := congrArg List.length hd
   rw [List.length_drop, List.length_cons] at this
   omega
  clear hb hC hR hB hM hG
  have hz := hS.len
  have c1 : decide ((n : Int) < (l.length : Int)) = true := decide_eq_true (by omega)
  have c2 : ((n : Int) < (l.length : Int)) = True := eq_true (by omega)
  have c3 : (n < l.length) = True := eq_true (by omega)
  have c4 : decide (n < l.length) = true := decide_eq_true (by omega)
  have c5 : ((0 : Int) ≤ (n : Int)) = True := eq_true (by omega)
  clear hS hz
  generalize W0.heap.size = R at hc0 ⊢
  generalize l.length = ln at hc0 hc hl c1 c2 c3 c4 ⊢
  have hres : Pl.headIs (t :: r) (Pl.bs s) = (t.1 == 3 && ((Pl.str t.2).toList == s.toList)) := by
   show Pl.isT t (Pl.bs s) = _
   unfold Pl.isT
   rw [Pl.toList_str, Pl.toList_bs]
  rw [hres]
  go_enter Tryz.func124, Tryz.ntmps124
  go_wp2
  go_ret
  exact ⟨rfl, rfl⟩
set_option maxHeartbeats 4000000 in
set_option maxRecDepth 100000 in
theorem take_calls (W0 w : World) (l : List Pl.Tok) (bx : List Pl.BoxL) (s : ByteArray) (h : RS W0 w l bx) :
  Calls Tryz.prog 105 #[.pointer (some ⟨W0.heap.size, 0, none⟩), .string s] w fun e w' => e = .returned (.bool (Pl.headIs l (Pl.bs s))) ∧ RS W0 w' (if Pl.headIs l (Pl.bs s) = true then l.tail else l) bx := by
 have hat := at_calls W0 w l bx s h
 have H := Aside0.mk h
 obtain ⟨⟨A, c, v, hb, hC, hc, hR⟩, hB, hS, hM, hG⟩ := h
 have hc0 : w.cell? ⟨W0.heap.size, 0, none⟩ = some (.slice A l.length c) := (blk_cell hb 0).trans rfl
 have hf0 := blk_frozen hb 0
 cases hq : Pl.headIs l (Pl.bs s) with
 | false =>
  rw [hq] at hat
  clear hb hC hR hB hS hM hG hc0 hf0
  generalize hW : W0.heap.size = R at hat ⊢
  go_enter Tryz.func105, Tryz.ntmps105
  go_wp2_with (go_at_call 127; refine hat.mono ?_; rintro e w' ⟨rfl, rfl⟩)
  go_ret
  exact ⟨rfl, H.out⟩
 | true =>
  rw [hq] at hat
  obtain ⟨t, r, rfl, ht⟩ := Pl.headIs_ne hq
  obtain ⟨ad, rfl, h0, h1⟩ := tok_cell hC hB (i := 0) (t := t) (r := r) rfl
  have c1 : ((1 : Int) ≤ ((t :: r).length : Int)) = True := eq_true (by simp only [List.length_cons]; omega)
  have c2 : (((t :: r).length : Int) ≤ (c : Int)) = True := eq_true (by omega)
  have c3 : ((1 : Int) ≤ (c : Int)) = True := eq_true (by simp only [List.length_cons] at hc; omega)
  have c4 : (1 ≤ (t :: r).length) = True := eq_true (by simp)
  have c5 : ((t :: r).length ≤ c) = True := eq_true hc
  have c6 : (1 ≤ c) = True := eq_true (by simp only [List.length_cons] at hc; omega)
  have HC := Aside0.mk (fun A' n' c' h1 h2 h3 => RS.cut hb hC hc hR hB hS hM hG 1 (by simp) A' n' c' h1 h2 h3)
  have hcc := Aside0.mk hc
  clear hb hC hR hB hS hM hG h0 h1 hc
  clear H
  generalize hn : (t :: r).length = n at hat hc0 c1 c2 c4 c5 HC hcc ⊢
  generalize hW : W0.heap.size = R at hat hc0 hf0 HC ⊢
  go_enter Tryz.func105, Tryz.ntmps105
  go_wp2_with (go_at_call 127; refine hat.mono ?_; rintro e w' ⟨rfl, rfl⟩)
  all_goals
   go_ret
   exact ⟨rfl, HC.out _ _ _ (by first | rfl | (simp [*]; done) | (simp [*]; rfl)) (by first | rfl | (simp; done) | omega) (by first | rfl | (simp; done) | omega)⟩
end Go.Proofs.YtbjbpgmjijeppaaGreatDoor.Fn
set_option linter.unusedVariables false
set_option linter.unusedSimpArgs false
namespace Go.Proofs.YtbjbpgmjijeppaaGreatDoor.Fn
open Go.RowKit Go.Proofs.YtbjbpgmjijeppaaGreatDoorW.PrintWords Go.Proofs.YtbjbpgmjijeppaaGreatDoorW.PrintLast Go.Proofs.YtbjbpgmjijeppaaGreatDoorW.PrintMore
attribute [local go_sem high] eqA160


/-! Layer 14: how many words stand at the front, and what they say -/
theorem join_len : ∀ l : List Pl.Tok, (Lib.join (l.map (·.2)) [32]).length ≤ (Pl.cat l).length + l.length
 | [] => by simp [Pl.join_nil]
 | [t] => by rw [List.map_cons, List.map_nil, Pl.join_one]; simp [Pl.cat]
 | t :: u :: r => by
  have ih := join_len (u :: r)
  have e : Pl.cat (t :: u :: r) = t.2 ++ Pl.cat (u :: r) := by simp [Pl.cat]
  have e2 : Lib.join ((t :: u :: r).map (·.2)) [32] = t.2 ++ [32] ++ Lib.join ((u :: r).map (·.2)) [32] := Pl.join_cons2 _ _ _ _
  rw [e2, e]
  simp only [List.length_append, List.length_cons, List.length_nil] at ih ⊢
  omega
def txs (l : List Pl.Tok) : List ByteArray := l.map fun t => Pl.str t.2
theorem join_call (l : List Pl.Tok) (hS : Small l) (i : Nat) (b : Nat) (W : World) (v : Value) (h : Kd.R Kd.string 9 W b (fun _ => True) v (txs (l.take i))) :
  ∃ A c n q, v = .slice A n c ∧ Hid (n = (l.take i).length) ∧ Hid (q = Pl.str (Lib.join ((l.take i).map (·.2)) [32])) ∧ Hid (∀ W1, Below W.heap.size W W1 → Calls Tryz.prog 139 #[.slice A n c, .string ⟨#[32]⟩] W1 fun e w' => e = .returned (.string q) ∧ Below W1.heap.size W1 w') := by
 obtain ⟨A, c, rfl⟩ := Kd.R_slice h
 have hlen : (txs (l.take i)).length = (l.take i).length := List.length_map _
 refine ⟨A, c, _, _, by rw [hlen], hid rfl, hid rfl, hid (fun W1 hW1 => ?_)⟩
 obtain ⟨-, hc, hC⟩ := Kd.R_reads' h
 have hl : (l.take i).length ≤ 50000 := Nat.le_trans (by rw [List.length_take]; omega) hS.len
 have hs : (Pl.cat (l.take i)).length ≤ 50000 := by
  have h2 := hS.sum
  have h3 : Pl.cat l = Pl.cat (l.take i) ++ Pl.cat (l.drop i) := by rw [← Pl.cat_app, List.take_append_drop]
  rw [h3, List.length_append] at h2
  omega
 have hj : Pl.join (txs (l.take i)) ⟨#[32]⟩ = Pl.str (Lib.join ((l.take i).map (·.2)) [32]) := by
  unfold Pl.join txs
  rw [List.map_map]
  exact congrArg Pl.str (congrArg (Lib.join · [32]) (List.map_congr_left (fun t _ => Pl.bs_str t.2)))
 have hjl := join_len (l.take i)
 have := strings_Join.calls A c (txs (l.take i)) ⟨#[32]⟩ (Pl.join (txs (l.take i)) ⟨#[32]⟩) W1 (Kd.C_below hC hW1) hc (by
  unfold strings_Join.f
  rw [if_pos (by rw [hlen]; omega), if_pos (by rw [hj, Pl.str_size]; omega)])
 rw [hlen, hj] at this
 exact this
theorem take_while {l : List Pl.Tok} {i : Nat} (h : (l.take i).all Pl.wordT = true) (h2 : l.drop i = [] ∨ ∃ t r, l.drop i = t :: r ∧ Pl.wordT t = false) : l.takeWhile Pl.wordT = l.take i := by
 have := (Pl.span_all Pl.wordT (l.drop i) h2 (l.take i) (fun t ht => List.all_eq_true.1 h t ht)).1
 rwa [List.take_append_drop] at this
set_option maxHeartbeats 8000000 in
set_option maxRecDepth 100000 in
theorem words_calls (W0 w : World) (l : List Pl.Tok) (bx : List Pl.BoxL) (h : RS W0 w l bx) :
  Calls Tryz.prog 123 #[.pointer (some ⟨W0.heap.size, 0, none⟩)] w fun e w' => e = .returned (.tuple #[.int .i64 ((l.takeWhile Pl.wordT).length : Nat), .string (Pl.str (Pl.nameL l))]) ∧ Below w.heap.size w w' := by
 obtain ⟨⟨A, c, v, hb, hC, hc, hR⟩, hB, hS, hM, hG⟩ := h
 have hu := Tryz.underlying160
 have hc0 : w.cell? ⟨W0.heap.size, 0, none⟩ = some (.slice A l.length c) := (blk_cell hb 0).trans rfl
 have HC := hid hC
 have HB0 := hid hB
 have HS := hid hS
 have hz := hS.len
 clear hb hC hR hB hS hM hG
 go_enter Tryz.func123, Tryz.ntmps123
 go_wp2
 go_loopw [4, 12] (fun v4 v12 wr => ∃ i : Nat, v12 = .int .i64 i ∧ i ≤ l.length ∧ Hid ((l.take i).all Pl.wordT = true) ∧ Hid (Kd.R Kd.string 9 wr w.heap.size (fun _ => True) v4 (txs (l.take i))) ∧ Hid (Below w.heap.size w wr)) (fun _ v12 _ => l.length - (intOf v12).toNat)
 case atStart => exact ⟨0, rfl, Nat.zero_le _, hid rfl, hid (Kd.R_nil _ _ _ _ _), hid (Below.refl _ _)⟩
 case round =>
  obtain ⟨i, rfl, hi, HW, HR, HBw⟩ := hrel
  cases hd : l.drop i with
  | nil =>
   have hl : l.length ≤ i := by
    have := congrArg List.length hd
    rw [List.length_drop, List.length_nil] at this
    omega
   have c1 : decide ((i : Int) < (l.length : Int)) = false := decide_eq_false (by omega)
   have c1n : decide (i < l.length) = false := decide_eq_false (by omega)
   obtain ⟨A2, c2, n2, q2, rfl, hn2, hq2, hj⟩ := join_call l HS.out i _ wr _ HR.out
   have htw := hid (take_while HW.out (.inl hd))
   clear hl hz hi hd hc
   go_wp2_with (go_at_call 139; refine (hj.out _ (Below.refl _ _)).mono ?_; rintro e w' ⟨rfl, hb'⟩)
   go_ret2
   refine ⟨?_, HBw.out.trans (hb'.mono HBw.out.size)⟩
   unfold Pl.nameL
   rw [htw.out, hn2.out, hq2.out]
   rfl
  | cons t r =>
   have hl : i < l.length := by
    have := congrArg List.length hd
    rw [List.length_drop, List.length_cons] at this
    omega
   obtain ⟨ad, rfl, h0, h1⟩ := tok_cell HC.out (HB0.out.trans (HBw.out.mono HB0.out.size)) hd
   have c1 : decide ((i : Int) < (l.length : Int)) = true := decide_eq_true (by omega)
   have c1n : decide (i < l.length) = true := decide_eq_true (by omega)
   have c2 : ((i : Int) < (l.length : Int)) = True := eq_true (by omega)
   have c3 : (i < l.length) = True := eq_true (by omega)
   have c5 : ((0 : Int) ≤ (i : Int)) = True := eq_true (by omega)
   have hsnoc : l.take (i + 1) = l.take i ++ [t] := by
    rw [List.take_succ_eq_append_getElem hl]
    congr 2
    have := List.getElem?_drop (xs := l) (i := i) (j := 0)
    rw [hd] at this
    simpa [List.getElem?_eq_getElem hl] using this.symm
   have HSN := hid hsnoc
   have HD := hid hd
   clear hsnoc hd
   by_cases hk : t.1 = 3
   ·obtain ⟨A2, c2', n2, q2, rfl, hn2, hq2, hj⟩ := join_call l HS.out i _ wr _ HR.out
    have htw := hid (take_while HW.out (.inr ⟨t, r, HD.out, by unfold Pl.wordT; rw [hk]; rfl⟩))
    rw [hk] at h0
    go_wp2_with (first
     | ((with_reducible refine gate_dst (N := 6) rfl ?_); refine box_event ?hg (N := 6) ?hd (cs := #[.int .i64 0, .string (⟨#[]⟩ : ByteArray)]) (t := 160) ?hr ?_; (case hd => rfl); (case hg => rfl); (case hr => first | (go_simp; done) | (go_simp; rfl)); intro g hg w7 hbox hb; have b0 := (blk_cell hbox 0).trans rfl; have b1 := (blk_cell hbox 1).trans rfl; have bf0 := blk_frozen hbox 0; have bf1 := blk_frozen hbox 1; have HBX := hid hb; have HG := hid hg; clear hb hbox hg)
     | (go_at_call 139; have hB1 : Below wr.heap.size wr ((w7.setCell ⟨g, 0, none⟩ (.int .i64 3)).setCell ⟨g, 1, none⟩ (.string (Pl.str t.2))) := (HBX.out.setCell (p := ⟨g, 0, none⟩) (Nat.le_of_eq HG.out.symm) _).setCell (p := ⟨g, 1, none⟩) (Nat.le_of_eq HG.out.symm) _; refine (hj.out _ hB1).mono ?_; rintro e w' ⟨rfl, hb'⟩))
    go_ret2
    refine ⟨?_, HBw.out.trans ((hB1.trans (hb'.mono hB1.size)).mono HBw.out.size)⟩
    unfold Pl.nameL
    rw [htw.out, hn2.out, hq2.out]
    rfl
   ·have k1 : (t.1 == 3) = false := beq_eq_false_iff_ne.2 hk
    have hp : Hid (Pl.wordT t = true) := hid (by unfold Pl.wordT; exact bne_iff_ne.2 hk)
    have hlen : (txs (l.take i)).length = i := by rw [txs, List.length_map, List.length_take]; omega
    go_wp2_with (first
     | ((with_reducible refine gate_dst (N := 6) rfl ?_); refine box_event ?hg (N := 6) ?hd (cs := #[.int .i64 0, .string (⟨#[]⟩ : ByteArray)]) (t := 160) ?hr ?_; (case hd => rfl); (case hg => rfl); (case hr => first | (go_simp; done) | (go_simp; rfl)); intro g hg w7 hbox hb; have b0 := (blk_cell hbox 0).trans rfl; have b1 := (blk_cell hbox 1).trans rfl; have bf0 := blk_frozen hbox 0; have bf1 := blk_frozen hbox 1; have HGL := hid (blk_lt hbox); have HBW := hid (((HBw.out.trans (hb.mono HBw.out.size)).setCell (p := ⟨g, 0, none⟩) (show w.heap.size ≤ g by have := HBw.out.size; omega) (.int .i64 t.1)).setCell (p := ⟨g, 1, none⟩) (show w.heap.size ≤ g by have := HBw.out.size; omega) (.string (Pl.str t.2))); have HBX := hid hb; have HG := hid hg; clear hb hbox hg)
     | ((with_reducible refine gate_builtin (b := .append) (xs := #[.tmp 19, .tmp 22]) rfl ?_); at_builtin; refine Kd.R_append Kd.string (w0 := w) w.heap.size rfl (.tmp 19) (.tmp 22) 39 9 (.string ⟨#[]⟩) 16 rfl Tryz.underlying39 info9 rfl (by decide) (by omega) u4 (txs (l.take i)) (Pl.str t.2) [.string (Pl.str t.2)] (fun k => k ≠ g) (fun _ => False) rfl (by first | rfl | (go_simp; done) | (go_simp; rfl)) ?aP (fun _ hk => hk.elim) ?aF ?aO ?aB ?aS ?aL ?_; (case aP => exact rfl); (case aF => exact (fun k hk => by have h2 : w7.heap.size ≤ k := (by simpa using hk); have := HGL.out; show k ≠ g; omega)); (case aO => exact Kd.R_far (p := ⟨g, 1, none⟩) (Kd.R_far (p := ⟨g, 0, none⟩) (Kd.R_below (Kd.R_mono (Kd.R_bound HR.out) (fun k hk => by have := hk.2.2.1; have := HG.out; show k ≠ g; omega)) HBX.out) (fun _ hk => hk) _) (fun _ hk => hk) _); (case aB => exact HBW.out); (case aS => exact HBW.out.size); (case aL => rw [hlen]; omega); intro v1 w1 ho hb1 hg1 hat1; have HO1 := hid ho; have HB1 := hid hb1; clear ho hb1 hg1 hat1))
    go_roundw
    case rel =>
     exact ⟨i + 1, by go_num, by omega, hid (by rw [HSN.out, List.all_append, HW.out]; simpa using hp.out), hid (by rw [HSN.out]; unfold txs; rw [List.map_append]; exact Kd.R_mono HO1.out (fun _ _ => trivial)), HB1⟩
    case measure => simp [intOf]; omega
end Go.Proofs.YtbjbpgmjijeppaaGreatDoor.Fn
set_option linter.unusedVariables false
set_option linter.unusedSimpArgs false
namespace Go.Proofs.YtbjbpgmjijeppaaGreatDoor.Fn
open Go.RowKit Go.Proofs.YtbjbpgmjijeppaaGreatDoorW.PrintWords Go.Proofs.YtbjbpgmjijeppaaGreatDoorW.PrintLast Go.Proofs.YtbjbpgmjijeppaaGreatDoorW.PrintMore
attribute [local go_sem high] eqA160

/-! Layer 14: an address, taken away from the front -/
set_option maxRecDepth 100000 in
theorem stop_byte (c : UInt8) : Lib.contains [44, 59, 58, 60, 62] [c] = Pl.stopB c := Pl.forall_byte (p := fun c => Lib.contains [44, 59, 58, 60, 62] [c] = Pl.stopB c) (by decide +kernel) c
theorem stops_is {t : Pl.Tok} (h : Pl.okTok t) : mbx_stops.f t.1 (Pl.str t.2) = some (Pl.stopT t) := by
 unfold mbx_stops.f Pl.stopT
 by_cases h3 : t.1 = 3
 ·obtain ⟨c, hc⟩ := h h3
  rw [if_pos h3, hc, h3]
  unfold strings_Contains.f
  rw [if_pos (by decide), Option.bind_some]
  show some (Lib.contains [44, 59, 58, 60, 62] (Pl.bs (Pl.str [c]))) = some (((3 : Int) == 3) && Pl.stopB c)
  rw [Pl.bs_str, stop_byte]
  rfl
 ·rw [if_neg h3, show (t.1 == 3) = false from beq_eq_false_iff_ne.2 h3]
  rfl
theorem take_non {l : List Pl.Tok} {i : Nat} (h : (l.take i).all Pl.nonT = true) (h2 : l.drop i = [] ∨ ∃ t r, l.drop i = t :: r ∧ Pl.nonT t = false) : l.takeWhile Pl.nonT = l.take i ∧ l.dropWhile Pl.nonT = l.drop i := by
 have := Pl.span_all Pl.nonT (l.drop i) h2 (l.take i) (fun t ht => List.all_eq_true.1 h t ht)
 rwa [List.take_append_drop] at this
theorem small_take {l : List Pl.Tok} (h : Small l) (i : Nat) : Small (l.take i) := by
 have h2 := h.sum
 have h3 : Pl.cat l = Pl.cat (l.take i) ++ Pl.cat (l.drop i) := by rw [← Pl.cat_app, List.take_append_drop]
 rw [h3, List.length_append] at h2
 exact ⟨Nat.le_trans (by rw [List.length_take]; omega) h.len, by omega, fun t ht => h.ok t (List.mem_of_mem_take ht)⟩
theorem of_call {W0 : World} {l : List Pl.Tok} {A : Option Addr} {c : Nat} (hC : Kd.C k160 W0 A l.length (l.map Pl.tok142)) (hc : l.length ≤ c) (hS : Small l) (i : Nat) (hi : i ≤ l.length) {W : World} (hB : Below W0.heap.size W0 W) :
  Calls Tryz.prog 149 #[.slice A i c] W fun e w' => e = .returned (.tuple #[.agg #[.string (Pl.ofT (l.take i)).1, .string (Pl.ofT (l.take i)).2.1], .int .i64 (Pl.ofT (l.take i)).2.2]) ∧ Below W.heap.size W w' := by
 have hl : (l.take i).length = i := by rw [List.length_take]; omega
 have hC1 := Kd.C_take (m := i) (show Kd.C k160 W0 A (l.map Pl.tok142).length (l.map Pl.tok142) by rw [List.length_map]; exact hC) (by rw [List.length_map]; exact hi)
 rw [← List.map_take] at hC1
 have hs := small_take hS i
 have h := addr_Of.calls (2 * (l.take i).length + 400000) A c ((l.take i).map Pl.tok142) _ _ _ W (Kd.C_below hC1 hB) (by rw [List.length_map, hl]; omega) (Pl.addrOf_is (l.take i) (by have := hs.len; omega) (by have := hs.sum; omega) _ (Nat.le_refl _))
 rw [List.length_map, hl] at h
 exact h
theorem info_mbxBox : (Tryz.prog.info? 53).map (fun i => (i.zero, i.size, i.bytes)) = some (some (.agg #[(.string ⟨#[]⟩), (.string ⟨#[]⟩), (.string ⟨#[]⟩)]), 3, 48) := by kernel_rfl
theorem RS.cutW {W0 w : World} {l : List Pl.Tok} {bx : List Pl.BoxL} (h : RS W0 w l bx) {A : Option Addr} {n c : Nat} {v : Value} (hb : w.heap[W0.heap.size]? = some (.cells #[.slice A n c, v] 146 (0, 0))) (m : Nat) (hm : m ≤ l.length) (A' : Option Addr) (n' c' : Nat) (hA : A' = if c = m then A else A.map (·.add (m * 2))) (hn : n' = n - m) (hc' : c' = c - m) :
  RS W0 (w.setCell ⟨W0.heap.size, 0, none⟩ (.slice A' n' c')) (l.drop m) bx := by
 obtain ⟨⟨A1, c1, v1, hb1, hC, hc, hR⟩, hB, hS, hM, hG⟩ := h
 rw [hb] at hb1
 simp only [Option.some.injEq, Obj.cells.injEq, Array.mk.injEq, List.cons.injEq, Value.slice.injEq, and_true] at hb1
 obtain ⟨⟨rfl, rfl, rfl⟩, rfl⟩ := hb1
 exact RS.cut hb hC hc hR hB hS hM hG m hm A' n' c' hA hn hc'
theorem RS.boxes {W0 w : World} {l : List Pl.Tok} {bx : List Pl.BoxL} (h : RS W0 w l bx) {x v : Value} (hb : w.heap[W0.heap.size]? = some (.cells #[x, v] 146 (0, 0))) : Kd.R k53 53 w (W0.heap.size + 1) (fun _ => True) v (bx.map toBox) := by
 obtain ⟨⟨A1, c1, v1, hb1, hC, hc, hR⟩, hB, hS, hM, hG⟩ := h
 rw [hb] at hb1
 simp only [Option.some.injEq, Obj.cells.injEq, Array.mk.injEq, List.cons.injEq, and_true] at hb1
 obtain ⟨rfl, rfl⟩ := hb1
 exact hR
theorem RS.grow {W0 w w1 : World} {l : List Pl.Tok} {bx : List Pl.BoxL} (h : RS W0 w l bx) (hb : Below (W0.heap.size + 1) w w1) {v1 : Value} {nm a b : ByteArray} (hR : Kd.R k53 53 w1 (W0.heap.size + 1) (fun _ => True) v1 (bx.map toBox ++ [(⟨nm, ⟨a, b⟩⟩ : S53)])) (hn : ¬ bx.length = 100) :
  RS W0 (w1.setCell ⟨W0.heap.size, 1, none⟩ v1) l (bx ++ [(Pl.bs nm, Pl.bs a, Pl.bs b)]) := by
 obtain ⟨⟨A1, c1, v, hb1, hC, hc, _⟩, hB, hS, hM, hG⟩ := h
 refine ⟨⟨A1, c1, v1, blk_put ((hb.block W0.heap.size (Nat.lt_succ_self _)).trans hb1) 1 v1 rfl, hC, hc, ?_⟩, (hB.trans (hb.mono (Nat.le_succ _))).setCell (p := ⟨W0.heap.size, 1, none⟩) (Nat.le_refl _) _, hS, by rw [List.length_append, List.length_singleton]; omega, hG⟩
 rw [List.map_append, List.map_singleton, show toBox (Pl.bs nm, Pl.bs a, Pl.bs b) = (⟨nm, ⟨a, b⟩⟩ : S53) by unfold toBox; simp only [Pl.str_bs]]
 exact Kd.R_mono (Kd.R_far (p := ⟨W0.heap.size, 1, none⟩) (Kd.R_bound hR) (fun k hk => by show k ≠ W0.heap.size; have := hk.2.1; omega) _) (fun _ _ => trivial)
def mbx_address.T : Bool × List (List Nat × List Nat) := (true,
 [([], []), ([], []), ([1], [1]), ([2], [2]), ([3], [3]), ([], []), ([], []), ([5, 6], [5, 6]), ([7], [7]),
  ([4, 8], [4, 8]), ([0, 0, 1, 2, 3, 4, 5, 6, 7, 8, 9], [0]), ([10, 0, 1, 2, 3, 4, 5, 6, 7, 8, 9], [10]),
  ([11, 9, 9, 0, 1, 2, 3, 4, 5, 6, 7, 8, 9], [9, 11])])
def mbx_address.B : List Nat := [0, 0, 2, 6, 14, 0, 0, 96, 224, 510, 1023, 2047, 4095]
theorem mbx_address.tab : rtab .any (opsOf Tryz.f140 10) = mbx_address.T := by kernel_rfl
theorem mbx_address.bits : waitsOk mbx_address.T.2 mbx_address.B = true := by kernel_rfl
set_option maxHeartbeats 8000000 in
set_option maxRecDepth 100000 in
theorem address_calls (W0 w : World) (l : List Pl.Tok) (bx : List Pl.BoxL) (nm : ByteArray) (h : RS W0 w l bx) :
  Calls Tryz.prog 140 #[.pointer (some ⟨W0.heap.size, 0, none⟩), .string nm] w fun e w' => e = .returned (.int .i64 (Pl.addressM (Pl.bs nm) l bx).2) ∧ ((Pl.addressM (Pl.bs nm) l bx).2 = 0 → RS W0 w' (Pl.addressM (Pl.bs nm) l bx).1.1 (Pl.addressM (Pl.bs nm) l bx).1.2) ∧ Below W0.heap.size W0 w' := by
 have hz := h.small.len
 have H := hid h
 have hz0 := hid h.lt
 clear h
 go_enter Tryz.func140, Tryz.ntmps140
 go_wp2
 go_loopw [5] (fun v5 wr => ∃ i : Nat, v5 = .int .i64 i ∧ i ≤ l.length ∧ Hid ((l.take i).all Pl.nonT = true) ∧ Hid (RS W0 wr l bx)) (fun v5 _ => l.length - (intOf v5).toNat)
 case atStart => exact ⟨0, rfl, Nat.zero_le _, hid rfl, H⟩
 case round =>
  clear H hz0
  obtain ⟨i, rfl, hi, HW, H⟩ := hrel
  obtain ⟨⟨A, c, v, hb, hC, hc, hR⟩, hB, hS, hM, hG⟩ := H.out
  have hu := Tryz.underlying160
  have hu2 := Tryz.underlying51
  have hc0 : wr.cell? ⟨W0.heap.size, 0, none⟩ = some (.slice A l.length c) := (blk_cell hb 0).trans rfl
  cases hd : l.drop i with
  | nil =>
   have hl : l.length ≤ i := by
    have := congrArg List.length hd
    rw [List.length_drop, List.length_nil] at this
    omega
   have c1 : decide ((i : Int) < (l.length : Int)) = false := decide_eq_false (by omega)
   have c1n : decide (i < l.length) = false := decide_eq_false (by omega)
   clear hl
   obtain ⟨Ab, cb, nb, rfl, hnb⟩ : ∃ Ab cb nb, v = .slice Ab nb cb ∧ Hid (nb = bx.length) := by
    obtain ⟨Ab, cb, e⟩ := Kd.R_slice hR
    exact ⟨Ab, cb, _, e, hid (List.length_map _)⟩
   have htw := hid (take_non HW.out (.inl hd))
   have hof := hid (fun W1 (hB1 : Below W0.heap.size W0 W1) => of_call hC hc hS i hi hB1)
   obtain ⟨⟨a, b, e0⟩, hres⟩ : ∃ x, Pl.ofT (l.take i) = x := ⟨_, rfl⟩
   rw [hres] at hof
   have hadr : Hid (Pl.addressM (Pl.bs nm) l bx = if e0 ≠ 0 then Pl.failM e0 else if bx.length = 100 then Pl.failM 8 else ((l.drop i, bx ++ [(Pl.bs nm, Pl.bs a, Pl.bs b)]), 0)) := by
    refine hid ?_
    unfold Pl.addressM
    rw [htw.out.1, htw.out.2, hres]
   have c6 : ((i : Int) ≤ (c : Int)) = True := eq_true (by omega)
   have c7 : (i ≤ c) = True := eq_true (by omega)
   have c8 : ((0 : Int) ≤ (i : Int)) = True := eq_true (by omega)
   have c9 : ((i : Int) ≤ (l.length : Int)) = True := eq_true (by omega)
   have c10 : (i ≤ l.length) = True := eq_true (by omega)
   have c11 : ((l.length : Int) ≤ (c : Int)) = True := eq_true (by omega)
   have c12 : (l.length ≤ c) = True := eq_true (by omega)
   have HBK := hid hb
   have hRlt := hid H.out.lt
   have hcc := hid hc
   have hii := hid hi
   have hzz := hid hz
   have HC := hid hC
   have HSM := hid hS
   have HMM := hid hM
   have HGG := hid hG
   clear hb hC hR hB hS hM hG hi hz hc hd
   have H2 := H
   have HBK2 := HBK
   by_cases he : e0 = 0
   case neg =>
    have ce : (e0 != 0) = true := bne_iff_ne.2 he
    go_wp2_with (first
     | (go_at_call 149; refine (hof.out _ H2.out.below).mono ?_; rintro e w5 ⟨rfl, b5⟩; have H5 := hid (H2.out.keep b5); have HBK5 := hid ((b5.block W0.heap.size H2.out.lt).trans HBK2.out))
     | ((with_reducible refine gate_dst (N := 6) rfl ?_); refine box_event ?hg (N := 6) ?hd (cs := #[.string (⟨#[]⟩ : ByteArray), .string (⟨#[]⟩ : ByteArray)]) (t := 51) ?hr ?_; (case hd => rfl); (case hg => rfl); (case hr => first | (go_simp; done) | (go_simp; rfl)); intro g hg w7 hbox hb; have b0 := (blk_cell hbox 0).trans rfl; have b1 := (blk_cell hbox 1).trans rfl; have bf0 := blk_frozen hbox 0; have bf1 := blk_frozen hbox 1; have H7 := hid (H5.out.keep hb); have HG7 := hid hg; have HL5 := hid H5.out.lt; clear hb hbox hg))
    go_ret
    refine ⟨?_, fun h0 => ?_, ?_⟩
    ·rw [hadr.out, if_pos he]; rfl
    ·rw [hadr.out, if_pos he] at h0; exact absurd h0 he
    ·exact (H7.out.below.setCell (p := ⟨g, 0, none⟩) (by show W0.heap.size ≤ g; have := HL5.out; have := HG7.out; omega) _).setCell (p := ⟨g, 1, none⟩) (by show W0.heap.size ≤ g; have := HL5.out; have := HG7.out; omega) _
   case pos =>
    subst he
    by_cases hn : nb = 100
    ·have cn : ((nb : Int) == 100) = true := beq_iff_eq.2 (by omega)
     have cn2 : (nb == 100) = true := beq_iff_eq.2 hn
     go_wp2_with (first
      | (go_at_call 149; refine (hof.out _ H2.out.below).mono ?_; rintro e w5 ⟨rfl, b5⟩; have H5 := hid (H2.out.keep b5); have HBK5 := hid ((b5.block W0.heap.size H2.out.lt).trans HBK2.out))
      | ((with_reducible refine gate_dst (N := 6) rfl ?_); refine box_event ?hg (N := 6) ?hd (cs := #[.string (⟨#[]⟩ : ByteArray), .string (⟨#[]⟩ : ByteArray)]) (t := 51) ?hr ?_; (case hd => rfl); (case hg => rfl); (case hr => first | (go_simp; done) | (go_simp; rfl)); intro g hg w7 hbox hb; have b0 := (blk_cell hbox 0).trans rfl; have b1 := (blk_cell hbox 1).trans rfl; have bf0 := blk_frozen hbox 0; have bf1 := blk_frozen hbox 1; have HB57 := hid hb; have HG7k := hid hbox; have HBK7 := hid ((hb.block W0.heap.size H5.out.lt).trans HBK5.out); have H7 := hid (H5.out.keep hb); have HG7 := hid hg; have HL5 := hid H5.out.lt; have hne : ¬ W0.heap.size = g := (by have := HL5.out; omega); have r0 := (blk_cell HBK7.out 0).trans rfl; have r1 := (blk_cell HBK7.out 1).trans rfl; have rf0 := blk_frozen HBK7.out 0; have rf1 := blk_frozen HBK7.out 1; clear hb hbox hg))
     all_goals
      have hb100 : bx.length = 100 := by rw [← hnb.out]; exact hn
      have hal : Pl.addressM (Pl.bs nm) l bx = Pl.failM 8 := by rw [hadr.out, if_neg (by simp), if_pos hb100]
      go_ret
      rw [hal]
      exact ⟨rfl, fun h0 => absurd h0 (by decide), (((H5.out.keep ((HB57.out.setCell (p := ⟨g, 0, none⟩) (Nat.le_of_eq HG7.out.symm) (.string a)).setCell (p := ⟨g, 1, none⟩) (Nat.le_of_eq HG7.out.symm) (.string b))).below).setCell (p := ⟨W0.heap.size, 0, none⟩) (Nat.le_refl _) _)⟩
    ·have cn : ((nb : Int) == 100) = false := beq_eq_false_iff_ne.2 (by omega)
     have cn2 : (nb == 100) = false := beq_eq_false_iff_ne.2 hn
     go_wp2_with (first
      | (go_at_call 149; refine (hof.out _ H2.out.below).mono ?_; rintro e w5 ⟨rfl, b5⟩; have H5 := hid (H2.out.keep b5); have HBK5 := hid ((b5.block W0.heap.size H2.out.lt).trans HBK2.out))
      | ((with_reducible refine gate_dst (N := 6) rfl ?_); refine box_event ?hg (N := 6) ?hd (cs := #[.string (⟨#[]⟩ : ByteArray), .string (⟨#[]⟩ : ByteArray)]) (t := 51) ?hr ?_; (case hd => rfl); (case hg => rfl); (case hr => first | (go_simp; done) | (go_simp; rfl)); intro g hg w7 hbox hb; have b0 := (blk_cell hbox 0).trans rfl; have b1 := (blk_cell hbox 1).trans rfl; have bf0 := blk_frozen hbox 0; have bf1 := blk_frozen hbox 1; have HB57 := hid hb; have HG7k := hid hbox; have HBK7 := hid ((hb.block W0.heap.size H5.out.lt).trans HBK5.out); have H7 := hid (H5.out.keep hb); have HG7 := hid hg; have HL5 := hid H5.out.lt; have hne : ¬ W0.heap.size = g := (by have := HL5.out; omega); have r0 := (blk_cell HBK7.out 0).trans rfl; have r1 := (blk_cell HBK7.out 1).trans rfl; have rf0 := blk_frozen HBK7.out 0; have rf1 := blk_frozen HBK7.out 1; clear hb hbox hg))
     all_goals
      have hgR : W0.heap.size < g := by have := HL5.out; have := HG7.out; omega
      have hnb100 : Hid (¬ bx.length = 100) := hid (by rw [← hnb.out]; exact hn)
      have HGp : Hid (((w7.setCell ⟨g, 0, none⟩ (.string a)).setCell ⟨g, 1, none⟩ (.string b)).heap[g]? = some (.cells #[.string a, .string b] 51 (0, 0))) := hid (blk_put (blk_put HG7k.out 0 _ rfl) 1 _ rfl)
      have HB7p : Hid (((w7.setCell ⟨g, 0, none⟩ (.string a)).setCell ⟨g, 1, none⟩ (.string b)).heap[W0.heap.size]? = some (.cells #[.slice A l.length c, .slice Ab nb cb] 146 (0, 0))) := hid ((Below.heap_setCell _ _ _ _ (by show W0.heap.size ≠ g; omega)).trans ((Below.heap_setCell _ _ _ _ (by show W0.heap.size ≠ g; omega)).trans HBK7.out))
      have H7p : Hid (RS W0 ((w7.setCell ⟨g, 0, none⟩ (.string a)).setCell ⟨g, 1, none⟩ (.string b)) l bx) := hid (H5.out.keep ((HB57.out.setCell (p := ⟨g, 0, none⟩) (Nat.le_of_eq HG7.out.symm) _).setCell (p := ⟨g, 1, none⟩) (Nat.le_of_eq HG7.out.symm) _))
      refine start_ (n := 13) (S := (fun w' => w'.cell? ⟨W0.heap.size, 1, none⟩ = some (.slice Ab nb cb) ∧ w'.cell? ⟨g, 0, none⟩ = some (.string a) ∧ w'.cell? ⟨g, 1, none⟩ = some (.string b))) (ds := [12]) #[false, false, false, false, false, false, false, false, false, false, false, false, false] (by kernel_rfl) rfl rfl ⟨(blk_cell (blk_drew (blk_put HB7p.out 0 _ rfl)) 1).trans rfl, (blk_cell (blk_drew ((Below.heap_setCell _ _ _ _ (by show g ≠ W0.heap.size; omega)).trans HGp.out)) 0).trans rfl, (blk_cell (blk_drew ((Below.heap_setCell _ _ _ _ (by show g ≠ W0.heap.size; omega)).trans HGp.out)) 1).trans rfl⟩ (fun hHeld => ?_); refine with_tabW mbx_address.tab mbx_address.bits (fun HT_ HW_ => ?_)
      generalize hW8 : World.drew _ = w8 at hHeld ⊢
      have H8 : Hid (RS W0 w8 (l.drop i) bx) := hid (by rw [← hW8]; exact (RS.cutW H7p.out HB7p.out i hii.out _ _ _ (by first | rfl | (simp [*]; done) | (simp [*]; rfl)) (by first | rfl | (simp; done) | omega) (by first | rfl | (simp; done) | omega)).keep (below_drew (Below.refl _ _)))
      have HB8 : Hid (∃ A' n' c', w8.heap[W0.heap.size]? = some (.cells #[.slice A' n' c', .slice Ab nb cb] 146 (0, 0))) := hid ⟨_, _, _, by rw [← hW8]; exact blk_drew (blk_put HB7p.out 0 _ rfl)⟩
      have HG8 : Hid (w8.heap[g]? = some (.cells #[.string a, .string b] 51 (0, 0))) := hid (by rw [← hW8]; exact blk_drew ((Below.heap_setCell _ _ _ _ (by show g ≠ W0.heap.size; omega)).trans HGp.out))
      clear hW8 b0 b1 bf0 bf1 r0 r1 rf0 rf1
      refine pure_ (i := 0) (N := some 56) (v := ?_) (a' := ?_) #[true, false, false, false, false, false, false, false, false, false, false, false, false] rfl rfl (any_of HT_.out (by kernel_rfl)) (fun _ _ _ h => h) (Or.inl ⟨by rfl, ?_⟩) ?_ ?_
      rotate_left
      ·intro w'
       go_simp
       with_reducible rfl
      rotate_left
      ·simp only [Act.put, List.setIfInBounds_toArray, List.set_cons_zero, List.set_cons_succ, i64_w, i32_w]
       rfl
      refine pure_ (i := 1) (N := some 57) (v := ?_) (a' := ?_) #[true, true, false, false, false, false, false, false, false, false, false, false, false] rfl rfl (any_of HT_.out (by kernel_rfl)) (fun _ _ _ h => h) (Or.inl ⟨by rfl, ?_⟩) ?_ ?_
      rotate_left
      ·intro w'
       go_simp
       with_reducible rfl
      rotate_left
      ·simp only [Act.put, List.setIfInBounds_toArray, List.set_cons_zero, List.set_cons_succ, i64_w, i32_w]
       rfl
      refine pure_ (i := 2) (N := some 58) (v := ?_) (a' := ?_) #[true, true, true, false, false, false, false, false, false, false, false, false, false] rfl rfl (any_of HT_.out (by kernel_rfl)) (fun _ _ _ h => h) (Or.inl ⟨by rfl, ?_⟩) ?_ ?_
      rotate_left
      ·intro w'
       go_simp
       with_reducible rfl
      rotate_left
      ·simp only [Act.put, List.setIfInBounds_toArray, List.set_cons_zero, List.set_cons_succ, i64_w, i32_w]
       rfl
      refine pure_ (i := 3) (N := some 59) (v := ?_) (a' := ?_) #[true, true, true, true, false, false, false, false, false, false, false, false, false] rfl rfl (any_of HT_.out (by kernel_rfl)) (fun _ _ _ h => h) (Or.inl ⟨by rfl, ?_⟩) ?_ ?_
      rotate_left
      ·intro w'
       go_simp
       with_reducible rfl
      rotate_left
      ·simp only [Act.put, List.setIfInBounds_toArray, List.set_cons_zero, List.set_cons_succ, i64_w, i32_w]
       rfl
      refine take_ (i := 4) (N := some 60) (v := ?_) (a' := ?_) #[true, true, true, true, true, false, false, false, false, false, false, false, false] rfl rfl (take_ofW HT_.out HW_.out (by kernel_rfl)) (fun _ _ _ h => h) (Or.inl ⟨by rfl, ?_⟩) hHeld ?_ ?_
      rotate_left
      ·rintro w' ⟨s0, s1, s2⟩
       go_simp
       with_reducible rfl
      rotate_left
      ·simp only [Act.put, List.setIfInBounds_toArray, List.set_cons_zero, List.set_cons_succ, i64_w, i32_w]
       rfl
      refine pure_ (i := 5) (N := some 61) (v := ?_) (a' := ?_) #[true, true, true, true, true, true, false, false, false, false, false, false, false] rfl rfl (any_of HT_.out (by kernel_rfl)) (fun _ _ _ h => h) (Or.inl ⟨by rfl, ?_⟩) ?_ ?_
      rotate_left
      ·intro w'
       go_simp
       with_reducible rfl
      rotate_left
      ·simp only [Act.put, List.setIfInBounds_toArray, List.set_cons_zero, List.set_cons_succ, i64_w, i32_w]
       rfl
      refine take_ (i := 6) (N := some 62) (v := ?_) (a' := ?_) #[true, true, true, true, true, true, true, false, false, false, false, false, false] rfl rfl (take_ofW HT_.out HW_.out (by kernel_rfl)) (fun _ _ _ h => h) (Or.inl ⟨by rfl, ?_⟩) hHeld ?_ ?_
      rotate_left
      ·rintro w' ⟨s0, s1, s2⟩
       go_simp
       with_reducible rfl
      rotate_left
      ·simp only [Act.put, List.setIfInBounds_toArray, List.set_cons_zero, List.set_cons_succ, i64_w, i32_w]
       rfl
      refine pure_ (i := 7) (N := some 63) (v := ?_) (a' := ?_) #[true, true, true, true, true, true, true, true, false, false, false, false, false] rfl rfl (any_of HT_.out (by kernel_rfl)) (fun _ _ _ h => h) (Or.inl ⟨by rfl, ?_⟩) ?_ ?_
      rotate_left
      ·intro w'
       go_simp
       with_reducible rfl
      rotate_left
      ·simp only [Act.put, List.setIfInBounds_toArray, List.set_cons_zero, List.set_cons_succ, i64_w, i32_w]
       rfl
      refine one_ (i := 8) (N := some 64) #[true, true, true, true, true, true, true, true, true, false, false, false, false] rfl rfl (one_of HT_.out (by kernel_rfl)) (by decide) (fun K hK => ?_)
      refine value_ (w1 := ?_) (v := ?_) (by rfl) rfl ?_ ?_
      rotate_left 2
      ·go_simp
       constructor
       ·rfl
       ·rfl
      refine hK.out _ _ ⟨(blk_cell (blk_alloc (show w8.heap[W0.heap.size]? = some (.cells #[.slice _ _ _, .slice Ab nb cb] _ (0, 0)) from HB8.out.choose_spec.choose_spec.choose_spec) (.cells #[.string nm, .string a, .string b] 53)) 1).trans rfl, (blk_cell (blk_alloc HG8.out (.cells #[.string nm, .string a, .string b] 53)) 0).trans rfl, (blk_cell (blk_alloc HG8.out (.cells #[.string nm, .string a, .string b] 53)) 1).trans rfl⟩ (fun hHeld3 => ?_)
      clear hK K
      refine norm_ (a' := ?_) ?_ ?_
      rotate_left
      ·show Act.put _ (some 64) _ = _
       simp only [Act.put, List.setIfInBounds_toArray, List.set_cons_zero, List.set_cons_succ, i64_w, i32_w]
       rfl
      refine one_ (i := 9) (N := some 65) #[true, true, true, true, true, true, true, true, true, true, false, false, false] rfl rfl (one_of HT_.out (by kernel_rfl)) (by decide) (fun K hK => ?_)
      have hRb : Kd.R k53 53 w8 (W0.heap.size + 1) (fun _ => True) (.slice Ab nb cb) (bx.map toBox) := by
       obtain ⟨A', n', c', h1⟩ := HB8.out
       exact H8.out.boxes h1
      refine Kd.R_append_step k53 (w0 := w8) (W0.heap.size + 1) (by rfl) (.tmp 60) (.tmp 64) 111 53 (.agg #[(.string ⟨#[]⟩), (.string ⟨#[]⟩), (.string ⟨#[]⟩)]) 48 rfl Tryz.underlying111 info_mbxBox rfl (by decide) (by omega) (.slice Ab nb cb) (bx.map toBox) (⟨nm, ⟨a, b⟩⟩ : S53) [.string nm, .string a, .string b] (fun _ => True) (fun _ => False) rfl rfl (k53_mkM _ _ _ _) (fun _ hk => hk.elim) (fun _ _ => trivial) hRb (Below.refl _ _) H8.out.lt (by rw [List.length_map]; have := HMM.out; omega) ?_
      intro v1 w9 ho hb9 hg9 hat9
      obtain ⟨Av, nv, cv, rfl⟩ : ∃ Av nv cv, v1 = .slice Av nv cv := by
       obtain ⟨Av, cv, e⟩ := Kd.R_slice ho
       exact ⟨Av, _, cv, e⟩
      have HB9 : Hid (∃ A' n' c', w9.heap[W0.heap.size]? = some (.cells #[.slice A' n' c', .slice Ab nb cb] 146 (0, 0))) := by
       obtain ⟨A', n', c', h1⟩ := HB8.out
       exact hid ⟨A', n', c', (hb9.block W0.heap.size (Nat.lt_succ_self _)).trans h1⟩
      have HG9 := hid ((hg9.block g (blk_lt HG8.out) (Kd.R_ne hRb HG8.out (by decide))).trans HG8.out)
      have HFIN := hid (H8.out.grow hb9 ho hnb100.out)
      refine hK.out _ _ ⟨(blk_cell HB9.out.choose_spec.choose_spec.choose_spec 1).trans rfl, (blk_cell HG9.out 0).trans rfl, (blk_cell HG9.out 1).trans rfl⟩ (fun hHeld4 => ?_)
      clear hK K hRb ho hb9 hg9 hat9
      refine norm_ (a' := ?_) ?_ ?_
      rotate_left
      ·show Act.put _ (some 65) _ = _
       simp only [Act.put, List.setIfInBounds_toArray, List.set_cons_zero, List.set_cons_succ, i64_w, i32_w]
       rfl
      refine pure_ (i := 10) (N := some 66) (v := ?_) (a' := ?_) #[true, true, true, true, true, true, true, true, true, true, true, false, false] rfl rfl (any_of HT_.out (by kernel_rfl)) (fun _ _ _ h => h) (Or.inl ⟨by rfl, ?_⟩) ?_ ?_
      rotate_left
      ·intro w'
       go_simp
       with_reducible rfl
      rotate_left
      ·simp only [Act.put, List.setIfInBounds_toArray, List.set_cons_zero, List.set_cons_succ, i64_w, i32_w]
       rfl
      refine pure_ (i := 11) (N := some 67) (v := ?_) (a' := ?_) #[true, true, true, true, true, true, true, true, true, true, true, true, false] rfl rfl (any_of HT_.out (by kernel_rfl)) (fun _ _ _ h => h) (Or.inl ⟨by rfl, ?_⟩) ?_ ?_
      rotate_left
      ·intro w'
       go_simp
       with_reducible rfl
      rotate_left
      ·simp only [Act.put, List.setIfInBounds_toArray, List.set_cons_zero, List.set_cons_succ, i64_w, i32_w]
       rfl
      have t1 := (blk_cell HB9.out.choose_spec.choose_spec.choose_spec 1).trans rfl
      have tf1 := blk_frozen HB9.out.choose_spec.choose_spec.choose_spec 1
      refine last_ (i := 12) (N := none) #[true, true, true, true, true, true, true, true, true, true, true, true, true] rfl rfl (one_of HT_.out (by kernel_rfl)) (by decide) (fun K hK => ?_)
      refine skip_ (w1 := w9.setCell ⟨W0.heap.size, 1, none⟩ (.slice Av nv cv)) (by rfl) rfl ?_ ?_
      ·go_simp
      refine hK.out _ _ ?_
      clear hK K
      refine done_ (done_of HT_.out (by kernel_rfl)) ?_
      go_wp2
      go_ret
      have hal : Pl.addressM (Pl.bs nm) l bx = ((l.drop i, bx ++ [(Pl.bs nm, Pl.bs a, Pl.bs b)]), 0) := by rw [hadr.out, if_neg (by simp), if_neg hnb100.out]
      rw [hal]
      exact ⟨rfl, fun _ => HFIN.out, HFIN.out.below⟩
  | cons t r =>
   have hl : i < l.length := by
    have := congrArg List.length hd
    rw [List.length_drop, List.length_cons] at this
    omega
   obtain ⟨ad, rfl, h0, h1⟩ := tok_cell hC hB hd
   have c1 : decide ((i : Int) < (l.length : Int)) = true := decide_eq_true (by omega)
   have c1n : decide (i < l.length) = true := decide_eq_true (by omega)
   have c2 : ((i : Int) < (l.length : Int)) = True := eq_true (by omega)
   have c3 : (i < l.length) = True := eq_true (by omega)
   have c5 : ((0 : Int) ≤ (i : Int)) = True := eq_true (by omega)
   have hsnoc : l.take (i + 1) = l.take i ++ [t] := by
    rw [List.take_succ_eq_append_getElem hl]
    congr 2
    have := List.getElem?_drop (xs := l) (i := i) (j := 0)
    rw [hd] at this
    simpa [List.getElem?_eq_getElem hl] using this.symm
   have HSN := hid hsnoc
   have HD := hid hd
   have hst := hid (stops_is (hS.ok t (List.mem_of_mem_drop (i := i) (by rw [hd]; exact List.mem_cons_self))))
   have HG := hid (H.out.globw)
   cases hq : Pl.stopT t with
   | false =>
    rw [hq] at hst
    clear hsnoc hd hb hC hR hB hS hM hG
    go_wp2_with (go_at_call 148; refine (mbx_stops.calls t.1 (Pl.str t.2) false wr HG.out hst.out).mono ?_; rintro e w' ⟨rfl, hb'⟩)
    go_roundw
    case rel => exact ⟨i + 1, by go_num, by omega, hid (by rw [HSN.out, List.all_append, HW.out]; simp [Pl.nonT, hq]), hid (H.out.keep hb')⟩
    case measure => simp [intOf]; omega
   | true =>
    rw [hq] at hst
    obtain ⟨Ab, cb, nb, rfl, hnb⟩ : ∃ Ab cb nb, v = .slice Ab nb cb ∧ Hid (nb = bx.length) := by
     obtain ⟨Ab, cb, e⟩ := Kd.R_slice hR
     exact ⟨Ab, cb, _, e, hid (List.length_map _)⟩
    have htw := hid (take_non HW.out (.inr ⟨t, r, HD.out, by unfold Pl.nonT; rw [hq]; rfl⟩))
    have hof := hid (fun W1 (hB1 : Below W0.heap.size W0 W1) => of_call hC hc hS i hi hB1)
    obtain ⟨⟨a, b, e0⟩, hres⟩ : ∃ x, Pl.ofT (l.take i) = x := ⟨_, rfl⟩
    rw [hres] at hof
    have hadr : Hid (Pl.addressM (Pl.bs nm) l bx = if e0 ≠ 0 then Pl.failM e0 else if bx.length = 100 then Pl.failM 8 else ((l.drop i, bx ++ [(Pl.bs nm, Pl.bs a, Pl.bs b)]), 0)) := by
     refine hid ?_
     unfold Pl.addressM
     rw [htw.out.1, htw.out.2, hres]
    have c6 : ((i : Int) ≤ (c : Int)) = True := eq_true (by omega)
    have c7 : (i ≤ c) = True := eq_true (by omega)
    have c8 : ((0 : Int) ≤ (i : Int)) = True := eq_true (by omega)
    have c9 : ((i : Int) ≤ (l.length : Int)) = True := eq_true (by omega)
    have c10 : (i ≤ l.length) = True := eq_true (by omega)
    have c11 : ((l.length : Int) ≤ (c : Int)) = True := eq_true (by omega)
    have c12 : (l.length ≤ c) = True := eq_true (by omega)
    have HBK := hid hb
    have hRlt := hid H.out.lt
    have hcc := hid hc
    have hii := hid hi
    have hzz := hid hz
    have HC := hid hC
    have HSM := hid hS
    have HMM := hid hM
    have HGG := hid hG
    clear hb hC hR hB hS hM hG hi hz hc hsnoc hd
    by_cases he : e0 = 0
    case neg =>
     have ce : (e0 != 0) = true := bne_iff_ne.2 he
     go_wp2_with (first
      | (go_at_call 148; refine (mbx_stops.calls t.1 (Pl.str t.2) true wr HG.out hst.out).mono ?_; rintro e w2 ⟨rfl, hb'⟩; have H2 := hid (H.out.keep hb'); have HBK2 := hid ((hb'.block W0.heap.size H.out.lt).trans HBK.out); have s0 := (blk_cell HBK2.out 0).trans rfl; clear hb')
      | (go_at_call 149; refine (hof.out _ H2.out.below).mono ?_; rintro e w5 ⟨rfl, b5⟩; have H5 := hid (H2.out.keep b5); have HBK5 := hid ((b5.block W0.heap.size H2.out.lt).trans HBK2.out))
      | ((with_reducible refine gate_dst (N := 6) rfl ?_); refine box_event ?hg (N := 6) ?hd (cs := #[.string (⟨#[]⟩ : ByteArray), .string (⟨#[]⟩ : ByteArray)]) (t := 51) ?hr ?_; (case hd => rfl); (case hg => rfl); (case hr => first | (go_simp; done) | (go_simp; rfl)); intro g hg w7 hbox hb; have b0 := (blk_cell hbox 0).trans rfl; have b1 := (blk_cell hbox 1).trans rfl; have bf0 := blk_frozen hbox 0; have bf1 := blk_frozen hbox 1; have H7 := hid (H5.out.keep hb); have HG7 := hid hg; have HL5 := hid H5.out.lt; clear hb hbox hg))
     go_ret
     refine ⟨?_, fun h0 => ?_, ?_⟩
     ·rw [hadr.out, if_pos he]; rfl
     ·rw [hadr.out, if_pos he] at h0; exact absurd h0 he
     ·exact (H7.out.below.setCell (p := ⟨g, 0, none⟩) (by show W0.heap.size ≤ g; have := HL5.out; have := HG7.out; omega) _).setCell (p := ⟨g, 1, none⟩) (by show W0.heap.size ≤ g; have := HL5.out; have := HG7.out; omega) _
    case pos =>
     subst he
     by_cases hn : nb = 100
     ·have cn : ((nb : Int) == 100) = true := beq_iff_eq.2 (by omega)
      have cn2 : (nb == 100) = true := beq_iff_eq.2 hn
      go_wp2_with (first
      | (go_at_call 148; refine (mbx_stops.calls t.1 (Pl.str t.2) true wr HG.out hst.out).mono ?_; rintro e w2 ⟨rfl, hb'⟩; have H2 := hid (H.out.keep hb'); have HBK2 := hid ((hb'.block W0.heap.size H.out.lt).trans HBK.out); have s0 := (blk_cell HBK2.out 0).trans rfl; clear hb')
       | (go_at_call 149; refine (hof.out _ H2.out.below).mono ?_; rintro e w5 ⟨rfl, b5⟩; have H5 := hid (H2.out.keep b5); have HBK5 := hid ((b5.block W0.heap.size H2.out.lt).trans HBK2.out))
       | ((with_reducible refine gate_dst (N := 6) rfl ?_); refine box_event ?hg (N := 6) ?hd (cs := #[.string (⟨#[]⟩ : ByteArray), .string (⟨#[]⟩ : ByteArray)]) (t := 51) ?hr ?_; (case hd => rfl); (case hg => rfl); (case hr => first | (go_simp; done) | (go_simp; rfl)); intro g hg w7 hbox hb; have b0 := (blk_cell hbox 0).trans rfl; have b1 := (blk_cell hbox 1).trans rfl; have bf0 := blk_frozen hbox 0; have bf1 := blk_frozen hbox 1; have HB57 := hid hb; have HG7k := hid hbox; have HBK7 := hid ((hb.block W0.heap.size H5.out.lt).trans HBK5.out); have H7 := hid (H5.out.keep hb); have HG7 := hid hg; have HL5 := hid H5.out.lt; have hne : ¬ W0.heap.size = g := (by have := HL5.out; omega); have r0 := (blk_cell HBK7.out 0).trans rfl; have r1 := (blk_cell HBK7.out 1).trans rfl; have rf0 := blk_frozen HBK7.out 0; have rf1 := blk_frozen HBK7.out 1; clear hb hbox hg))
      all_goals
       have hb100 : bx.length = 100 := by rw [← hnb.out]; exact hn
       have hal : Pl.addressM (Pl.bs nm) l bx = Pl.failM 8 := by rw [hadr.out, if_neg (by simp), if_pos hb100]
       go_ret
       rw [hal]
       exact ⟨rfl, fun h0 => absurd h0 (by decide), (((H5.out.keep ((HB57.out.setCell (p := ⟨g, 0, none⟩) (Nat.le_of_eq HG7.out.symm) (.string a)).setCell (p := ⟨g, 1, none⟩) (Nat.le_of_eq HG7.out.symm) (.string b))).below).setCell (p := ⟨W0.heap.size, 0, none⟩) (Nat.le_refl _) _)⟩
     ·have cn : ((nb : Int) == 100) = false := beq_eq_false_iff_ne.2 (by omega)
      have cn2 : (nb == 100) = false := beq_eq_false_iff_ne.2 hn
      go_wp2_with (first
      | (go_at_call 148; refine (mbx_stops.calls t.1 (Pl.str t.2) true wr HG.out hst.out).mono ?_; rintro e w2 ⟨rfl, hb'⟩; have H2 := hid (H.out.keep hb'); have HBK2 := hid ((hb'.block W0.heap.size H.out.lt).trans HBK.out); have s0 := (blk_cell HBK2.out 0).trans rfl; clear hb')
       | (go_at_call 149; refine (hof.out _ H2.out.below).mono ?_; rintro e w5 ⟨rfl, b5⟩; have H5 := hid (H2.out.keep b5); have HBK5 := hid ((b5.block W0.heap.size H2.out.lt).trans HBK2.out))
       | ((with_reducible refine gate_dst (N := 6) rfl ?_); refine box_event ?hg (N := 6) ?hd (cs := #[.string (⟨#[]⟩ : ByteArray), .string (⟨#[]⟩ : ByteArray)]) (t := 51) ?hr ?_; (case hd => rfl); (case hg => rfl); (case hr => first | (go_simp; done) | (go_simp; rfl)); intro g hg w7 hbox hb; have b0 := (blk_cell hbox 0).trans rfl; have b1 := (blk_cell hbox 1).trans rfl; have bf0 := blk_frozen hbox 0; have bf1 := blk_frozen hbox 1; have HB57 := hid hb; have HG7k := hid hbox; have HBK7 := hid ((hb.block W0.heap.size H5.out.lt).trans HBK5.out); have H7 := hid (H5.out.keep hb); have HG7 := hid hg; have HL5 := hid H5.out.lt; have hne : ¬ W0.heap.size = g := (by have := HL5.out; omega); have r0 := (blk_cell HBK7.out 0).trans rfl; have r1 := (blk_cell HBK7.out 1).trans rfl; have rf0 := blk_frozen HBK7.out 0; have rf1 := blk_frozen HBK7.out 1; clear hb hbox hg))
      all_goals
       have hgR : W0.heap.size < g := by have := HL5.out; have := HG7.out; omega
       have hnb100 : Hid (¬ bx.length = 100) := hid (by rw [← hnb.out]; exact hn)
       have HGp : Hid (((w7.setCell ⟨g, 0, none⟩ (.string a)).setCell ⟨g, 1, none⟩ (.string b)).heap[g]? = some (.cells #[.string a, .string b] 51 (0, 0))) := hid (blk_put (blk_put HG7k.out 0 _ rfl) 1 _ rfl)
       have HB7p : Hid (((w7.setCell ⟨g, 0, none⟩ (.string a)).setCell ⟨g, 1, none⟩ (.string b)).heap[W0.heap.size]? = some (.cells #[.slice (some ad) l.length c, .slice Ab nb cb] 146 (0, 0))) := hid ((Below.heap_setCell _ _ _ _ (by show W0.heap.size ≠ g; omega)).trans ((Below.heap_setCell _ _ _ _ (by show W0.heap.size ≠ g; omega)).trans HBK7.out))
       have H7p : Hid (RS W0 ((w7.setCell ⟨g, 0, none⟩ (.string a)).setCell ⟨g, 1, none⟩ (.string b)) l bx) := hid (H5.out.keep ((HB57.out.setCell (p := ⟨g, 0, none⟩) (Nat.le_of_eq HG7.out.symm) _).setCell (p := ⟨g, 1, none⟩) (Nat.le_of_eq HG7.out.symm) _))
       refine start_ (n := 13) (S := (fun w' => w'.cell? ⟨W0.heap.size, 1, none⟩ = some (.slice Ab nb cb) ∧ w'.cell? ⟨g, 0, none⟩ = some (.string a) ∧ w'.cell? ⟨g, 1, none⟩ = some (.string b))) (ds := [12]) #[false, false, false, false, false, false, false, false, false, false, false, false, false] (by kernel_rfl) rfl rfl ⟨(blk_cell (blk_drew (blk_put HB7p.out 0 _ rfl)) 1).trans rfl, (blk_cell (blk_drew ((Below.heap_setCell _ _ _ _ (by show g ≠ W0.heap.size; omega)).trans HGp.out)) 0).trans rfl, (blk_cell (blk_drew ((Below.heap_setCell _ _ _ _ (by show g ≠ W0.heap.size; omega)).trans HGp.out)) 1).trans rfl⟩ (fun hHeld => ?_); refine with_tabW mbx_address.tab mbx_address.bits (fun HT_ HW_ => ?_)
       generalize hW8 : World.drew _ = w8 at hHeld ⊢
       have H8 : Hid (RS W0 w8 (l.drop i) bx) := hid (by rw [← hW8]; exact (RS.cutW H7p.out HB7p.out i hii.out _ _ _ (by first | rfl | (simp [*]; done) | (simp [*]; rfl)) (by first | rfl | (simp; done) | omega) (by first | rfl | (simp; done) | omega)).keep (below_drew (Below.refl _ _)))
       have HB8 : Hid (∃ A' n' c', w8.heap[W0.heap.size]? = some (.cells #[.slice A' n' c', .slice Ab nb cb] 146 (0, 0))) := hid ⟨_, _, _, by rw [← hW8]; exact blk_drew (blk_put HB7p.out 0 _ rfl)⟩
       have HG8 : Hid (w8.heap[g]? = some (.cells #[.string a, .string b] 51 (0, 0))) := hid (by rw [← hW8]; exact blk_drew ((Below.heap_setCell _ _ _ _ (by show g ≠ W0.heap.size; omega)).trans HGp.out))
       clear hW8 b0 b1 bf0 bf1 r0 r1 rf0 rf1
       refine pure_ (i := 0) (N := some 56) (v := ?_) (a' := ?_) #[true, false, false, false, false, false, false, false, false, false, false, false, false] rfl rfl (any_of HT_.out (by kernel_rfl)) (fun _ _ _ h => h) (Or.inl ⟨by rfl, ?_⟩) ?_ ?_
       rotate_left
       ·intro w'
        go_simp
        with_reducible rfl
       rotate_left
       ·simp only [Act.put, List.setIfInBounds_toArray, List.set_cons_zero, List.set_cons_succ, i64_w, i32_w]
        rfl
       refine pure_ (i := 1) (N := some 57) (v := ?_) (a' := ?_) #[true, true, false, false, false, false, false, false, false, false, false, false, false] rfl rfl (any_of HT_.out (by kernel_rfl)) (fun _ _ _ h => h) (Or.inl ⟨by rfl, ?_⟩) ?_ ?_
       rotate_left
       ·intro w'
        go_simp
        with_reducible rfl
       rotate_left
       ·simp only [Act.put, List.setIfInBounds_toArray, List.set_cons_zero, List.set_cons_succ, i64_w, i32_w]
        rfl
       refine pure_ (i := 2) (N := some 58) (v := ?_) (a' := ?_) #[true, true, true, false, false, false, false, false, false, false, false, false, false] rfl rfl (any_of HT_.out (by kernel_rfl)) (fun _ _ _ h => h) (Or.inl ⟨by rfl, ?_⟩) ?_ ?_
       rotate_left
       ·intro w'
        go_simp
        with_reducible rfl
       rotate_left
       ·simp only [Act.put, List.setIfInBounds_toArray, List.set_cons_zero, List.set_cons_succ, i64_w, i32_w]
        rfl
       refine pure_ (i := 3) (N := some 59) (v := ?_) (a' := ?_) #[true, true, true, true, false, false, false, false, false, false, false, false, false] rfl rfl (any_of HT_.out (by kernel_rfl)) (fun _ _ _ h => h) (Or.inl ⟨by rfl, ?_⟩) ?_ ?_
       rotate_left
       ·intro w'
        go_simp
        with_reducible rfl
       rotate_left
       ·simp only [Act.put, List.setIfInBounds_toArray, List.set_cons_zero, List.set_cons_succ, i64_w, i32_w]
        rfl
       refine take_ (i := 4) (N := some 60) (v := ?_) (a' := ?_) #[true, true, true, true, true, false, false, false, false, false, false, false, false] rfl rfl (take_ofW HT_.out HW_.out (by kernel_rfl)) (fun _ _ _ h => h) (Or.inl ⟨by rfl, ?_⟩) hHeld ?_ ?_
       rotate_left
       ·rintro w' ⟨s0, s1, s2⟩
        go_simp
        with_reducible rfl
       rotate_left
       ·simp only [Act.put, List.setIfInBounds_toArray, List.set_cons_zero, List.set_cons_succ, i64_w, i32_w]
        rfl
       refine pure_ (i := 5) (N := some 61) (v := ?_) (a' := ?_) #[true, true, true, true, true, true, false, false, false, false, false, false, false] rfl rfl (any_of HT_.out (by kernel_rfl)) (fun _ _ _ h => h) (Or.inl ⟨by rfl, ?_⟩) ?_ ?_
       rotate_left
       ·intro w'
        go_simp
        with_reducible rfl
       rotate_left
       ·simp only [Act.put, List.setIfInBounds_toArray, List.set_cons_zero, List.set_cons_succ, i64_w, i32_w]
        rfl
       refine take_ (i := 6) (N := some 62) (v := ?_) (a' := ?_) #[true, true, true, true, true, true, true, false, false, false, false, false, false] rfl rfl (take_ofW HT_.out HW_.out (by kernel_rfl)) (fun _ _ _ h => h) (Or.inl ⟨by rfl, ?_⟩) hHeld ?_ ?_
       rotate_left
       ·rintro w' ⟨s0, s1, s2⟩
        go_simp
        with_reducible rfl
       rotate_left
       ·simp only [Act.put, List.setIfInBounds_toArray, List.set_cons_zero, List.set_cons_succ, i64_w, i32_w]
        rfl
       refine pure_ (i := 7) (N := some 63) (v := ?_) (a' := ?_) #[true, true, true, true, true, true, true, true, false, false, false, false, false] rfl rfl (any_of HT_.out (by kernel_rfl)) (fun _ _ _ h => h) (Or.inl ⟨by rfl, ?_⟩) ?_ ?_
       rotate_left
       ·intro w'
        go_simp
        with_reducible rfl
       rotate_left
       ·simp only [Act.put, List.setIfInBounds_toArray, List.set_cons_zero, List.set_cons_succ, i64_w, i32_w]
        rfl
       refine one_ (i := 8) (N := some 64) #[true, true, true, true, true, true, true, true, true, false, false, false, false] rfl rfl (one_of HT_.out (by kernel_rfl)) (by decide) (fun K hK => ?_)
       refine value_ (w1 := ?_) (v := ?_) (by rfl) rfl ?_ ?_
       rotate_left 2
       ·go_simp
        constructor
        ·rfl
        ·rfl
       refine hK.out _ _ ⟨(blk_cell (blk_alloc (show w8.heap[W0.heap.size]? = some (.cells #[.slice _ _ _, .slice Ab nb cb] _ (0, 0)) from HB8.out.choose_spec.choose_spec.choose_spec) (.cells #[.string nm, .string a, .string b] 53)) 1).trans rfl, (blk_cell (blk_alloc HG8.out (.cells #[.string nm, .string a, .string b] 53)) 0).trans rfl, (blk_cell (blk_alloc HG8.out (.cells #[.string nm, .string a, .string b] 53)) 1).trans rfl⟩ (fun hHeld3 => ?_)
       clear hK K
       refine norm_ (a' := ?_) ?_ ?_
       rotate_left
       ·show Act.put _ (some 64) _ = _
        simp only [Act.put, List.setIfInBounds_toArray, List.set_cons_zero, List.set_cons_succ, i64_w, i32_w]
        rfl
       refine one_ (i := 9) (N := some 65) #[true, true, true, true, true, true, true, true, true, true, false, false, false] rfl rfl (one_of HT_.out (by kernel_rfl)) (by decide) (fun K hK => ?_)
       have hRb : Kd.R k53 53 w8 (W0.heap.size + 1) (fun _ => True) (.slice Ab nb cb) (bx.map toBox) := by
        obtain ⟨A', n', c', h1⟩ := HB8.out
        exact H8.out.boxes h1
       refine Kd.R_append_step k53 (w0 := w8) (W0.heap.size + 1) (by rfl) (.tmp 60) (.tmp 64) 111 53 (.agg #[(.string ⟨#[]⟩), (.string ⟨#[]⟩), (.string ⟨#[]⟩)]) 48 rfl Tryz.underlying111 info_mbxBox rfl (by decide) (by omega) (.slice Ab nb cb) (bx.map toBox) (⟨nm, ⟨a, b⟩⟩ : S53) [.string nm, .string a, .string b] (fun _ => True) (fun _ => False) rfl rfl (k53_mkM _ _ _ _) (fun _ hk => hk.elim) (fun _ _ => trivial) hRb (Below.refl _ _) H8.out.lt (by rw [List.length_map]; have := HMM.out; omega) ?_
       intro v1 w9 ho hb9 hg9 hat9
       obtain ⟨Av, nv, cv, rfl⟩ : ∃ Av nv cv, v1 = .slice Av nv cv := by
        obtain ⟨Av, cv, e⟩ := Kd.R_slice ho
        exact ⟨Av, _, cv, e⟩
       have HB9 : Hid (∃ A' n' c', w9.heap[W0.heap.size]? = some (.cells #[.slice A' n' c', .slice Ab nb cb] 146 (0, 0))) := by
        obtain ⟨A', n', c', h1⟩ := HB8.out
        exact hid ⟨A', n', c', (hb9.block W0.heap.size (Nat.lt_succ_self _)).trans h1⟩
       have HG9 := hid ((hg9.block g (blk_lt HG8.out) (Kd.R_ne hRb HG8.out (by decide))).trans HG8.out)
       have HFIN := hid (H8.out.grow hb9 ho hnb100.out)
       refine hK.out _ _ ⟨(blk_cell HB9.out.choose_spec.choose_spec.choose_spec 1).trans rfl, (blk_cell HG9.out 0).trans rfl, (blk_cell HG9.out 1).trans rfl⟩ (fun hHeld4 => ?_)
       clear hK K hRb ho hb9 hg9 hat9
       refine norm_ (a' := ?_) ?_ ?_
       rotate_left
       ·show Act.put _ (some 65) _ = _
        simp only [Act.put, List.setIfInBounds_toArray, List.set_cons_zero, List.set_cons_succ, i64_w, i32_w]
        rfl
       refine pure_ (i := 10) (N := some 66) (v := ?_) (a' := ?_) #[true, true, true, true, true, true, true, true, true, true, true, false, false] rfl rfl (any_of HT_.out (by kernel_rfl)) (fun _ _ _ h => h) (Or.inl ⟨by rfl, ?_⟩) ?_ ?_
       rotate_left
       ·intro w'
        go_simp
        with_reducible rfl
       rotate_left
       ·simp only [Act.put, List.setIfInBounds_toArray, List.set_cons_zero, List.set_cons_succ, i64_w, i32_w]
        rfl
       refine pure_ (i := 11) (N := some 67) (v := ?_) (a' := ?_) #[true, true, true, true, true, true, true, true, true, true, true, true, false] rfl rfl (any_of HT_.out (by kernel_rfl)) (fun _ _ _ h => h) (Or.inl ⟨by rfl, ?_⟩) ?_ ?_
       rotate_left
       ·intro w'
        go_simp
        with_reducible rfl
       rotate_left
       ·simp only [Act.put, List.setIfInBounds_toArray, List.set_cons_zero, List.set_cons_succ, i64_w, i32_w]
        rfl
       have t1 := (blk_cell HB9.out.choose_spec.choose_spec.choose_spec 1).trans rfl
       have tf1 := blk_frozen HB9.out.choose_spec.choose_spec.choose_spec 1
       refine last_ (i := 12) (N := none) #[true, true, true, true, true, true, true, true, true, true, true, true, true] rfl rfl (one_of HT_.out (by kernel_rfl)) (by decide) (fun K hK => ?_)
       refine skip_ (w1 := w9.setCell ⟨W0.heap.size, 1, none⟩ (.slice Av nv cv)) (by rfl) rfl ?_ ?_
       ·go_simp
       refine hK.out _ _ ?_
       clear hK K
       refine done_ (done_of HT_.out (by kernel_rfl)) ?_
       go_wp2
       go_ret
       have hal : Pl.addressM (Pl.bs nm) l bx = ((l.drop i, bx ++ [(Pl.bs nm, Pl.bs a, Pl.bs b)]), 0) := by rw [hadr.out, if_neg (by simp), if_neg hnb100.out]
       rw [hal]
       exact ⟨rfl, fun _ => HFIN.out, HFIN.out.below⟩
end Go.Proofs.YtbjbpgmjijeppaaGreatDoor.Fn
set_option linter.unusedVariables false
set_option linter.unusedSimpArgs false
namespace Go.Proofs.YtbjbpgmjijeppaaGreatDoor.Fn
open Go.RowKit Go.Proofs.YtbjbpgmjijeppaaGreatDoorW.PrintWords Go.Proofs.YtbjbpgmjijeppaaGreatDoorW.PrintLast Go.Proofs.YtbjbpgmjijeppaaGreatDoorW.PrintMore

/-! Layer 14: a mailbox, a group, an item, taken away from the front -/
theorem drop_while (p : Pl.Tok → Bool) : ∀ l : List Pl.Tok, l.drop (l.takeWhile p).length = l.dropWhile p
 | [] => rfl
 | t :: l => by
  rw [List.takeWhile_cons, List.dropWhile_cons]
  cases p t with
  | true => simp only [if_true, List.length_cons, List.drop_succ_cons]; exact drop_while p l
  | false => simp
theorem drop_tail {α : Type} (l : List α) (n : Nat) : l.drop (n + 1) = (l.drop n).tail := by
 rw [List.tail_drop]
theorem address_gives {W0 w : World} {l : List Pl.Tok} {bx : List Pl.BoxL} {nm : ByteArray} (h : RS W0 w l bx) {la : List Pl.Tok} {ba : List Pl.BoxL} {ea : Int} (hA : Pl.addressM (Pl.bs nm) l bx = ((la, ba), ea)) :
  Calls Tryz.prog 140 #[.pointer (some ⟨W0.heap.size, 0, none⟩), .string nm] w fun e w' => e = .returned (.int .i64 ea) ∧ (ea = 0 → RS W0 w' la ba) ∧ Below W0.heap.size W0 w' := by
 have := address_calls W0 w l bx nm h
 rw [hA] at this
 exact this
theorem at_gives {W0 w : World} {l : List Pl.Tok} {bx : List Pl.BoxL} (h : RS W0 w l bx) {c : UInt8} {q : Bool} (hq : Pl.headIs l [c] = q) :
  Calls Tryz.prog 127 #[.pointer (some ⟨W0.heap.size, 0, none⟩), .string ⟨#[c]⟩] w fun e w' => e = .returned (.bool q) ∧ w' = w := by
 have := at_calls W0 w l bx ⟨#[c]⟩ h
 rw [show Pl.bs ⟨#[c]⟩ = [c] from rfl, hq] at this
 exact this
theorem take_gives {W0 w : World} {l : List Pl.Tok} {bx : List Pl.BoxL} (h : RS W0 w l bx) {c : UInt8} {q : Bool} (hq : Pl.headIs l [c] = q) :
  Calls Tryz.prog 105 #[.pointer (some ⟨W0.heap.size, 0, none⟩), .string ⟨#[c]⟩] w fun e w' => e = .returned (.bool q) ∧ RS W0 w' (if q = true then l.tail else l) bx := by
 have := take_calls W0 w l bx ⟨#[c]⟩ h
 rw [show Pl.bs ⟨#[c]⟩ = [c] from rfl, hq] at this
 exact this
theorem follows_gives {W0 w : World} {l : List Pl.Tok} {bx : List Pl.BoxL} (h : RS W0 w l bx) {c : UInt8} {n : Nat} {q : Bool} (hn : (l.takeWhile Pl.wordT).length = n) (hq : Pl.headIs (l.dropWhile Pl.wordT) [c] = q) :
  Calls Tryz.prog 124 #[.pointer (some ⟨W0.heap.size, 0, none⟩), .int .i64 n, .string ⟨#[c]⟩] w fun e w' => e = .returned (.bool q) ∧ w' = w := by
 have := follows_calls W0 w l bx n ⟨#[c]⟩ h
 rw [show Pl.bs ⟨#[c]⟩ = [c] from rfl, ← hn, drop_while, hq] at this
 rw [← hn]
 exact this
theorem words_gives {W0 w : World} {l : List Pl.Tok} {bx : List Pl.BoxL} (h : RS W0 w l bx) {n : Nat} (hn : (l.takeWhile Pl.wordT).length = n) :
  Calls Tryz.prog 123 #[.pointer (some ⟨W0.heap.size, 0, none⟩)] w fun e w' => e = .returned (.tuple #[.int .i64 n, .string (Pl.str (Pl.nameL l))]) ∧ Below w.heap.size w w' := by
 have := words_calls W0 w l bx h
 rw [hn] at this
 exact this
theorem RS.holds {W0 w : World} {l : List Pl.Tok} {bx : List Pl.BoxL} (h : RS W0 w l bx) : ∃ (A : Option Addr) (n c : Nat) (v : Value), w.heap[W0.heap.size]? = some (.cells #[.slice A n c, v] 146 (0, 0)) ∧ n = l.length ∧ n ≤ c ∧ (0 < n → ∃ ad, A = some ad) := by
 obtain ⟨A, c, v, h1, h2, h3, h4⟩ := h.out
 refine ⟨A, l.length, c, v, h1, rfl, h3, fun hp => ?_⟩
 obtain ⟨ad, e, _⟩ := h2.2.2 hp
 exact ⟨ad, e⟩
set_option maxHeartbeats 8000000 in
set_option maxRecDepth 100000 in
theorem mailbox_calls (W0 w : World) (l : List Pl.Tok) (bx : List Pl.BoxL) (h : RS W0 w l bx) :
  Calls Tryz.prog 125 #[.pointer (some ⟨W0.heap.size, 0, none⟩)] w fun e w' => e = .returned (.int .i64 (Pl.mailboxM l bx).2) ∧ ((Pl.mailboxM l bx).2 = 0 → RS W0 w' (Pl.mailboxM l bx).1.1 (Pl.mailboxM l bx).1.2) ∧ Below W0.heap.size W0 w' := by
 obtain ⟨n, hn⟩ : ∃ n, (l.takeWhile Pl.wordT).length = n := ⟨_, rfl⟩
 have hw := hid (words_gives h hn)
 have H := hid h
 have hz := h.small.len
 clear h
 cases hq : Pl.headIs (l.dropWhile Pl.wordT) [60] with
 | false =>
  obtain ⟨⟨⟨la, ba⟩, ea⟩, hA⟩ : ∃ x, Pl.addressM [] l bx = x := ⟨_, rfl⟩
  have hM : Pl.mailboxM l bx = ((la, ba), ea) := by unfold Pl.mailboxM; rw [hq, if_neg (by decide), hA]
  rw [hM]
  have HA := hid hA
  have HN := hid hn
  have HQ := hid hq
  clear hA hM hn hq hz
  go_enter Tryz.func125, Tryz.ntmps125
  go_wp2_with (first
   | (go_at_call 123; refine hw.out.mono ?_; rintro e w1 ⟨rfl, b1⟩; have H1 := hid (H.out.keep b1))
   | (go_at_call 124; refine (follows_gives H1.out HN.out HQ.out).mono ?_; rintro e w2 ⟨rfl, rfl⟩)
   | (go_at_call 140; refine (address_gives (nm := ⟨#[]⟩) H1.out HA.out).mono ?_; rintro e w3 ⟨rfl, hR, hB⟩))
  go_ret
  exact ⟨rfl, hR, hB⟩
 | true =>
  obtain ⟨t, r, hr, ht⟩ := Pl.headIs_ne hq
  have hnl : n + 1 ≤ l.length := by
   have h1 := congrArg List.length (List.takeWhile_append_dropWhile (p := Pl.wordT) (l := l))
   rw [List.length_append, hn, hr, List.length_cons] at h1
   omega
  have hdr : l.drop (n + 1) = (l.dropWhile Pl.wordT).tail := by rw [drop_tail, ← hn, drop_while]
  obtain ⟨⟨⟨la, ba⟩, ea⟩, hA⟩ : ∃ x, Pl.addressM (Pl.nameL l) (l.drop (n + 1)) bx = x := ⟨_, rfl⟩
  have hA2 : Pl.addressM (Pl.bs (Pl.str (Pl.nameL l))) (l.drop (n + 1)) bx = ((la, ba), ea) := by rw [Pl.bs_str]; exact hA
  have hM : Pl.mailboxM l bx = Pl.angleM ((la, ba), ea) := by unfold Pl.mailboxM; rw [hq, if_pos rfl, ← hdr, hA]
  rw [hM]
  have HA := hid hA2
  have HN := hid hn
  have HQ := hid hq
  have HL := hid hnl
  clear hA hA2 hM hn hq hdr hr ht
  obtain ⟨m, hm⟩ : ∃ m, n + 1 = m := ⟨_, rfl⟩
  rw [hm] at HA HL
  have hwr : wrap64 ((n : Int) + 1) = (m : Int) := by rw [Pl.wrap_succ n (by have := HL.out; omega), hm]
  have hm0 : ((0 : Int) ≤ (m : Int)) = True := eq_true (by omega)
  have HZ := hid hz
  have HM := hid hm
  clear hm hz
  by_cases he : ea = 0
  case neg =>
   have ce : (ea != 0) = true := bne_iff_ne.2 he
   have hP : Pl.angleM ((la, ba), ea) = ((la, ba), ea) := by unfold Pl.angleM; rw [if_pos he]
   rw [hP]
   have hq2 : Hid (Pl.headIs la [62] = Pl.headIs la [62]) := hid rfl
   clear hP
   go_enter Tryz.func125, Tryz.ntmps125
   go_wp2_with (first
    | (go_at_call 123; refine hw.out.mono ?_; rintro e w1 ⟨rfl, b1⟩; have H1 := hid (H.out.keep b1); obtain ⟨A, ln, c, v, hb1, hln, hlc, hA1⟩ := H1.out.holds; obtain ⟨ad, rfl⟩ := hA1 (by have := HL.out; have := HM.out; omega); have r0 := (blk_cell hb1 0).trans rfl; have rf0 := blk_frozen hb1 0; have c1 : ((m : Int) ≤ (ln : Int)) = True := eq_true (by have := HL.out; omega); have c2 : ((ln : Int) ≤ (c : Int)) = True := eq_true (by omega); have c3 : ((m : Int) ≤ (c : Int)) = True := eq_true (by have := HL.out; omega); have c4 : (m ≤ ln) = True := eq_true (by have := HL.out; omega); have c5 : (ln ≤ c) = True := eq_true hlc; have c6 : (m ≤ c) = True := eq_true (by have := HL.out; omega); have HBK := hid hb1; clear hln hlc hA1 hb1)
    | (go_at_call 124; refine (follows_gives H1.out HN.out HQ.out).mono ?_; rintro e w2 ⟨rfl, rfl⟩)
    | (go_at_call 140; refine (address_gives (RS.cutW H1.out HBK.out m HL.out _ _ _ (by first | rfl | (simp [*]; done) | (simp [*]; rfl)) (by first | rfl | (simp; done) | omega) (by first | rfl | (simp; done) | omega)) HA.out).mono ?_; rintro e w3 ⟨rfl, hR, hB⟩; have HR3 := hid hR; have HB3 := hid hB; clear hR hB)
    | (go_at_call 105; refine (take_gives (HR3.out (by trivial)) hq2.out).mono ?_; rintro e w4 ⟨rfl, hR4⟩; have HR4 := hid hR4; clear hR4))
   all_goals
    go_ret
    first | exact ⟨rfl, HR3.out, HB3.out⟩ | exact ⟨rfl, HB3.out⟩
  case pos =>
   subst he
   cases hq2 : Pl.headIs la [62] with
   | false =>
    have hP : Pl.angleM ((la, ba), 0) = Pl.failM 130 := by unfold Pl.angleM; rw [if_neg (by simp), hq2]; rfl
    rw [hP]
    replace hq2 := hid hq2
    clear hP
    go_enter Tryz.func125, Tryz.ntmps125
    go_wp2_with (first
     | (go_at_call 123; refine hw.out.mono ?_; rintro e w1 ⟨rfl, b1⟩; have H1 := hid (H.out.keep b1); obtain ⟨A, ln, c, v, hb1, hln, hlc, hA1⟩ := H1.out.holds; obtain ⟨ad, rfl⟩ := hA1 (by have := HL.out; have := HM.out; omega); have r0 := (blk_cell hb1 0).trans rfl; have rf0 := blk_frozen hb1 0; have c1 : ((m : Int) ≤ (ln : Int)) = True := eq_true (by have := HL.out; omega); have c2 : ((ln : Int) ≤ (c : Int)) = True := eq_true (by omega); have c3 : ((m : Int) ≤ (c : Int)) = True := eq_true (by have := HL.out; omega); have c4 : (m ≤ ln) = True := eq_true (by have := HL.out; omega); have c5 : (ln ≤ c) = True := eq_true hlc; have c6 : (m ≤ c) = True := eq_true (by have := HL.out; omega); have HBK := hid hb1; clear hln hlc hA1 hb1)
     | (go_at_call 124; refine (follows_gives H1.out HN.out HQ.out).mono ?_; rintro e w2 ⟨rfl, rfl⟩)
     | (go_at_call 140; refine (address_gives (RS.cutW H1.out HBK.out m HL.out _ _ _ (by first | rfl | (simp [*]; done) | (simp [*]; rfl)) (by first | rfl | (simp; done) | omega) (by first | rfl | (simp; done) | omega)) HA.out).mono ?_; rintro e w3 ⟨rfl, hR, hB⟩; have HR3 := hid hR; have HB3 := hid hB; clear hR hB)
     | (go_at_call 105; refine (take_gives (HR3.out (by trivial)) hq2.out).mono ?_; rintro e w4 ⟨rfl, hR4⟩; have HR4 := hid hR4; clear hR4))
    all_goals
     go_ret
     first | exact ⟨rfl, fun h0 => absurd h0 (by decide), HR4.out.below⟩ | exact ⟨rfl, HR4.out.below⟩
   | true =>
    have hP : Pl.angleM ((la, ba), 0) = ((la.tail, ba), 0) := by unfold Pl.angleM; rw [if_neg (by simp), hq2]; rfl
    rw [hP]
    replace hq2 := hid hq2
    clear hP
    go_enter Tryz.func125, Tryz.ntmps125
    go_wp2_with (first
     | (go_at_call 123; refine hw.out.mono ?_; rintro e w1 ⟨rfl, b1⟩; have H1 := hid (H.out.keep b1); obtain ⟨A, ln, c, v, hb1, hln, hlc, hA1⟩ := H1.out.holds; obtain ⟨ad, rfl⟩ := hA1 (by have := HL.out; have := HM.out; omega); have r0 := (blk_cell hb1 0).trans rfl; have rf0 := blk_frozen hb1 0; have c1 : ((m : Int) ≤ (ln : Int)) = True := eq_true (by have := HL.out; omega); have c2 : ((ln : Int) ≤ (c : Int)) = True := eq_true (by omega); have c3 : ((m : Int) ≤ (c : Int)) = True := eq_true (by have := HL.out; omega); have c4 : (m ≤ ln) = True := eq_true (by have := HL.out; omega); have c5 : (ln ≤ c) = True := eq_true hlc; have c6 : (m ≤ c) = True := eq_true (by have := HL.out; omega); have HBK := hid hb1; clear hln hlc hA1 hb1)
     | (go_at_call 124; refine (follows_gives H1.out HN.out HQ.out).mono ?_; rintro e w2 ⟨rfl, rfl⟩)
     | (go_at_call 140; refine (address_gives (RS.cutW H1.out HBK.out m HL.out _ _ _ (by first | rfl | (simp [*]; done) | (simp [*]; rfl)) (by first | rfl | (simp; done) | omega) (by first | rfl | (simp; done) | omega)) HA.out).mono ?_; rintro e w3 ⟨rfl, hR, hB⟩; have HR3 := hid hR; have HB3 := hid hB; clear hR hB)
     | (go_at_call 105; refine (take_gives (HR3.out (by trivial)) hq2.out).mono ?_; rintro e w4 ⟨rfl, hR4⟩; have HR4 := hid hR4; clear hR4))
    all_goals
     go_ret
     first | exact ⟨rfl, fun _ => HR4.out, HR4.out.below⟩ | exact ⟨rfl, HR4.out, HR4.out.below⟩
theorem take_yes {W0 w : World} {l : List Pl.Tok} {bx : List Pl.BoxL} (h : RS W0 w l bx) {c : UInt8} (hq : Pl.headIs l [c] = true) :
  Calls Tryz.prog 105 #[.pointer (some ⟨W0.heap.size, 0, none⟩), .string ⟨#[c]⟩] w fun e w' => e = .returned (.bool true) ∧ RS W0 w' l.tail bx := take_gives h hq
theorem take_no {W0 w : World} {l : List Pl.Tok} {bx : List Pl.BoxL} (h : RS W0 w l bx) {c : UInt8} (hq : Pl.headIs l [c] = false) :
  Calls Tryz.prog 105 #[.pointer (some ⟨W0.heap.size, 0, none⟩), .string ⟨#[c]⟩] w fun e w' => e = .returned (.bool false) ∧ RS W0 w' l bx := take_gives h hq
theorem mailbox_gives {W0 w : World} {l : List Pl.Tok} {bx : List Pl.BoxL} (h : RS W0 w l bx) {la : List Pl.Tok} {ba : List Pl.BoxL} {ea : Int} (hA : Pl.mailboxM l bx = ((la, ba), ea)) :
  Calls Tryz.prog 125 #[.pointer (some ⟨W0.heap.size, 0, none⟩)] w fun e w' => e = .returned (.int .i64 ea) ∧ (ea = 0 → RS W0 w' la ba) ∧ Below W0.heap.size W0 w' := by
 have := mailbox_calls W0 w l bx h
 rw [hA] at this
 exact this
set_option maxHeartbeats 8000000 in
set_option maxRecDepth 100000 in
theorem group_gives {W0 w : World} {l : List Pl.Tok} {bx : List Pl.BoxL} (h : RS W0 w l bx) {k : Nat} {lx : List Pl.Tok} {bxx : List Pl.BoxL} {ex : Int} (hx : Pl.groupM k l bx = ((lx, bxx), ex)) (hk : l.length < k) :
  Calls Tryz.prog 126 #[.pointer (some ⟨W0.heap.size, 0, none⟩)] w fun e w' => e = .returned (.int .i64 ex) ∧ (ex = 0 → RS W0 w' lx bxx) ∧ Below W0.heap.size W0 w' := by
 have H0 := hid h
 have HX0 := hid hx
 have HK0 := hid hk
 clear h hx hk
 go_enter Tryz.func126, Tryz.ntmps126
 go_wp2
 go_loopg [3] k (fun kq v3 w' => ∃ (l1 : List Pl.Tok) (bx1 : List Pl.BoxL), Hid (Pl.groupM kq l1 bx1 = ((lx, bxx), ex)) ∧ Hid (RS W0 w' l1 bx1) ∧ Hid (l1.length < kq) ∧ Hid (kq ≤ k))
 case atStart => exact ⟨l, bx, HX0, H0, HK0, hid (Nat.le_refl _)⟩
 case round =>
  clear H0 HX0 HK0
  obtain ⟨l1, bx1, HX, H, HL, HK⟩ := hrel
  cases gk with
  | zero => exact absurd HL.out (by omega)
  | succ k1 =>
   have hX := HX.out
   clear HX
   rw [Pl.groupM] at hX
   cases c1 : Pl.headIs l1 [59] with
   | true =>
    rw [c1, if_pos rfl] at hX
    simp only [Prod.mk.injEq] at hX
    obtain ⟨⟨rfl, rfl⟩, rfl⟩ := hX
    have C1 := hid c1
    clear c1
    go_wp2_with (first
     | (go_at_call 105; refine (take_yes H.out (c := 59) C1.out).mono ?_; rintro e w1 ⟨rfl, h_⟩; have H1 := hid h_; clear h_))
    go_ret
    first | exact ⟨rfl, fun _ => H1.out, H1.out.below⟩ | exact ⟨rfl, H1.out, H1.out.below⟩
   | false =>
    rw [c1, if_neg (by decide)] at hX
    have C1 := hid c1
    clear c1
    obtain ⟨⟨⟨l2, b2⟩, e2⟩, hA⟩ : ∃ x, Pl.mailboxM l1 bx1 = x := ⟨_, rfl⟩
    rw [hA] at hX
    have HA := hid hA
    clear hA
    by_cases he : e2 = 0
    case neg =>
     rw [if_pos he] at hX
     simp only [Prod.mk.injEq] at hX
     obtain ⟨⟨rfl, rfl⟩, rfl⟩ := hX
     have ce : (e2 != 0) = true := bne_iff_ne.2 he
     go_wp2_with (first
      | (go_at_call 105; refine (take_no H.out (c := 59) C1.out).mono ?_; rintro e w1 ⟨rfl, h_⟩; have H1 := hid h_; clear h_)
      | (go_at_call 125; refine (mailbox_gives H1.out HA.out).mono ?_; rintro e w2 ⟨rfl, h2, b2_⟩; have H2 := hid h2; have B2 := hid b2_; clear h2 b2_))
     go_ret
     first | exact ⟨rfl, H2.out, B2.out⟩ | exact ⟨rfl, B2.out⟩
    case pos =>
     subst he
     rw [if_neg (by simp)] at hX
     obtain ⟨_, _, hlt, _⟩ := Pl.mailbox_more HA.out
     have HLT := hid hlt
     clear hlt
     cases c3 : Pl.headIs l2 [59] with
     | true =>
      rw [if_pos c3] at hX
      have C3 := hid c3
      have HX2 := hid hX
      clear c3 hX
      go_wp2_with (first
       | (go_at_call 105; refine (take_no H.out (c := 59) C1.out).mono ?_; rintro e w1 ⟨rfl, h_⟩; have H1 := hid h_; clear h_)
       | (go_at_call 125; refine (mailbox_gives H1.out HA.out).mono ?_; rintro e w2 ⟨rfl, h2, b2_⟩; have H2 := hid h2; have B2 := hid b2_; clear h2 b2_)
       | (go_at_call 127; refine (at_gives (H2.out (by trivial)) (c := 59) C3.out).mono ?_; rintro e w_ ⟨rfl, rfl⟩))
      go_roundg k1
      case measure => have := HK.out; omega
      case rel => exact ⟨l2, b2, HX2, hid (H2.out (by trivial)), hid (by have := HL.out; have := HLT.out; omega), hid (by have := HK.out; omega)⟩
     | false =>
      rw [if_neg (show ¬ Pl.headIs l2 [59] = true by rw [c3]; decide)] at hX
      have C3 := hid c3
      clear c3
      cases c4 : Pl.headIs l2 [44] with
      | false =>
       rw [if_neg (show ¬ (Pl.headIs l2 [44] = true ∧ Pl.headIs l2.tail [59] = false) by rw [c4]; simp)] at hX
       have C4 := hid c4
       clear c4
       simp only [Pl.failM, Prod.mk.injEq] at hX
       obtain ⟨⟨rfl, rfl⟩, rfl⟩ := hX
       go_wp2_with (first
        | (go_at_call 105; refine (take_no (H2.out (by trivial)) (c := 44) C4.out).mono ?_; rintro e w4 ⟨rfl, h_⟩; have H4 := hid h_; clear h_)
        | (go_at_call 105; refine (take_no H.out (c := 59) C1.out).mono ?_; rintro e w1 ⟨rfl, h_⟩; have H1 := hid h_; clear h_)
        | (go_at_call 125; refine (mailbox_gives H1.out HA.out).mono ?_; rintro e w2 ⟨rfl, h2, b2_⟩; have H2 := hid h2; have B2 := hid b2_; clear h2 b2_)
        | (go_at_call 127; refine (at_gives (H2.out (by trivial)) (c := 59) C3.out).mono ?_; rintro e w_ ⟨rfl, rfl⟩))
       go_ret
       first | exact ⟨rfl, fun h0 => absurd h0 (by decide), H4.out.below⟩ | exact ⟨rfl, H4.out.below⟩
      | true =>
       have C4 := hid c4
       cases c5 : Pl.headIs l2.tail [59] with
       | true =>
        rw [if_neg (show ¬ (Pl.headIs l2 [44] = true ∧ Pl.headIs l2.tail [59] = false) by rw [c5]; simp)] at hX
        have C5 := hid c5
        clear c4 c5
        simp only [Pl.failM, Prod.mk.injEq] at hX
        obtain ⟨⟨rfl, rfl⟩, rfl⟩ := hX
        go_wp2_with (first
         | (go_at_call 105; refine (take_yes (H2.out (by trivial)) (c := 44) C4.out).mono ?_; rintro e w4 ⟨rfl, h_⟩; have H4 := hid h_; clear h_)
         | (go_at_call 127; refine (at_gives H4.out (c := 59) C5.out).mono ?_; rintro e w_ ⟨rfl, rfl⟩)
         | (go_at_call 105; refine (take_no H.out (c := 59) C1.out).mono ?_; rintro e w1 ⟨rfl, h_⟩; have H1 := hid h_; clear h_)
         | (go_at_call 125; refine (mailbox_gives H1.out HA.out).mono ?_; rintro e w2 ⟨rfl, h2, b2_⟩; have H2 := hid h2; have B2 := hid b2_; clear h2 b2_)
         | (go_at_call 127; refine (at_gives (H2.out (by trivial)) (c := 59) C3.out).mono ?_; rintro e w_ ⟨rfl, rfl⟩))
        go_ret
        first | exact ⟨rfl, fun h0 => absurd h0 (by decide), H4.out.below⟩ | exact ⟨rfl, H4.out.below⟩
       | false =>
        rw [if_pos (show Pl.headIs l2 [44] = true ∧ Pl.headIs l2.tail [59] = false from ⟨c4, c5⟩)] at hX
        have C5 := hid c5
        have HX2 := hid hX
        clear c4 c5 hX
        go_wp2_with (first
         | (go_at_call 105; refine (take_yes (H2.out (by trivial)) (c := 44) C4.out).mono ?_; rintro e w4 ⟨rfl, h_⟩; have H4 := hid h_; clear h_)
         | (go_at_call 127; refine (at_gives H4.out (c := 59) C5.out).mono ?_; rintro e w_ ⟨rfl, rfl⟩)
         | (go_at_call 105; refine (take_no H.out (c := 59) C1.out).mono ?_; rintro e w1 ⟨rfl, h_⟩; have H1 := hid h_; clear h_)
         | (go_at_call 125; refine (mailbox_gives H1.out HA.out).mono ?_; rintro e w2 ⟨rfl, h2, b2_⟩; have H2 := hid h2; have B2 := hid b2_; clear h2 b2_)
         | (go_at_call 127; refine (at_gives (H2.out (by trivial)) (c := 59) C3.out).mono ?_; rintro e w_ ⟨rfl, rfl⟩))
        go_roundg k1
        case measure => have := HK.out; omega
        case rel => exact ⟨l2.tail, b2, HX2, H4, hid (by rw [List.length_tail]; have := HL.out; have := HLT.out; omega), hid (by have := HK.out; omega)⟩
set_option maxHeartbeats 8000000 in
set_option maxRecDepth 100000 in
theorem item_gives {W0 w : World} {l : List Pl.Tok} {bx : List Pl.BoxL} (h : RS W0 w l bx) {lx : List Pl.Tok} {bxx : List Pl.BoxL} {ex : Int} (hx : Pl.itemM l bx = ((lx, bxx), ex)) :
  Calls Tryz.prog 104 #[.pointer (some ⟨W0.heap.size, 0, none⟩)] w fun e w' => e = .returned (.int .i64 ex) ∧ (ex = 0 → RS W0 w' lx bxx) ∧ Below W0.heap.size W0 w' := by
 obtain ⟨n, hn⟩ : ∃ n, (l.takeWhile Pl.wordT).length = n := ⟨_, rfl⟩
 have hw := hid (words_gives h hn)
 have H := hid h
 have hz := h.small.len
 clear h
 unfold Pl.itemM at hx
 by_cases hn0 : n = 0
 case pos =>
  have hnil : l.takeWhile Pl.wordT = [] := List.eq_nil_of_length_eq_zero (by rw [hn]; exact hn0)
  rw [if_neg (fun q => q.1 hnil)] at hx
  have HA := hid hx
  subst hn0
  clear hx hnil hn hz
  go_enter Tryz.func104, Tryz.ntmps104
  go_wp2_with (first
   | (go_at_call 123; refine hw.out.mono ?_; rintro e w1 ⟨rfl, b1⟩; have H1 := hid (H.out.keep b1); clear b1)
   | (go_at_call 125; refine (mailbox_gives H1.out HA.out).mono ?_; rintro e w3 ⟨rfl, hR, hB⟩))
  go_ret
  exact ⟨rfl, hR, hB⟩
 case neg =>
  have hne : l.takeWhile Pl.wordT ≠ [] := fun q => hn0 (by rw [← hn, q]; rfl)
  have cn1 : ((n : Int) == 0) = false := beq_eq_false_iff_ne.2 (by omega)
  have cn2 : (n == 0) = false := beq_eq_false_iff_ne.2 hn0
  cases hq : Pl.headIs (l.dropWhile Pl.wordT) [58] with
  | false =>
   rw [if_neg (fun q => by rw [hq] at q; exact absurd q.2 (by decide))] at hx
   have HA := hid hx
   have HN := hid hn
   have HQ := hid hq
   clear hx hn hq hz hne
   go_enter Tryz.func104, Tryz.ntmps104
   go_wp2_with (first
    | (go_at_call 124; refine (follows_gives H1.out HN.out HQ.out).mono ?_; rintro e w2 ⟨rfl, rfl⟩)
    | (go_at_call 123; refine hw.out.mono ?_; rintro e w1 ⟨rfl, b1⟩; have H1 := hid (H.out.keep b1); clear b1)
    | (go_at_call 125; refine (mailbox_gives H1.out HA.out).mono ?_; rintro e w3 ⟨rfl, hR, hB⟩))
   go_ret
   exact ⟨rfl, hR, hB⟩
  | true =>
   rw [if_pos ⟨hne, hq⟩] at hx
   obtain ⟨t, r, hr, ht⟩ := Pl.headIs_ne hq
   have hnl : n + 1 ≤ l.length := by
    have h1 := congrArg List.length (List.takeWhile_append_dropWhile (p := Pl.wordT) (l := l))
    rw [List.length_append, hn, hr, List.length_cons] at h1
    omega
   have hdr : l.drop (n + 1) = (l.dropWhile Pl.wordT).tail := by rw [drop_tail, ← hn, drop_while]
   rw [← hdr] at hx
   have HA := hid hx
   have HN := hid hn
   have HQ := hid hq
   have HL := hid hnl
   clear hx hn hq hdr hr ht hne
   obtain ⟨m, hm⟩ : ∃ m, n + 1 = m := ⟨_, rfl⟩
   rw [hm] at HA HL
   have hwr : wrap64 ((n : Int) + 1) = (m : Int) := by rw [Pl.wrap_succ n (by have := HL.out; omega), hm]
   have hm0 : ((0 : Int) ≤ (m : Int)) = True := eq_true (by omega)
   have HZ := hid hz
   have HM := hid hm
   clear hm hz hnl
   go_enter Tryz.func104, Tryz.ntmps104
   go_wp2_with (first
    | (go_at_call 124; refine (follows_gives H1.out HN.out HQ.out).mono ?_; rintro e w2 ⟨rfl, rfl⟩)
    | (go_at_call 123; refine hw.out.mono ?_; rintro e w1 ⟨rfl, b1⟩; have H1 := hid (H.out.keep b1); obtain ⟨A, ln, c, v, hb1, hln, hlc, hA1⟩ := H1.out.holds; obtain ⟨ad, rfl⟩ := hA1 (by have := HL.out; have := HM.out; omega); have r0 := (blk_cell hb1 0).trans rfl; have rf0 := blk_frozen hb1 0; have c1 : ((m : Int) ≤ (ln : Int)) = True := eq_true (by have := HL.out; omega); have c2 : ((ln : Int) ≤ (c : Int)) = True := eq_true (by omega); have c3 : ((m : Int) ≤ (c : Int)) = True := eq_true (by have := HL.out; omega); have c4 : (m ≤ ln) = True := eq_true (by have := HL.out; omega); have c5 : (ln ≤ c) = True := eq_true hlc; have c6 : (m ≤ c) = True := eq_true (by have := HL.out; omega); have HBK := hid hb1; clear hln hlc hA1 hb1)
    | (go_at_call 126; refine (group_gives (RS.cutW H1.out HBK.out m HL.out _ _ _ (by first | rfl | (simp [*]; done) | (simp [*]; rfl)) (by first | rfl | (simp; done) | omega) (by first | rfl | (simp; done) | omega)) HA.out (Nat.lt_succ_self _)).mono ?_; rintro e w3 ⟨rfl, hR, hB⟩))
   all_goals
    go_ret
    exact ⟨rfl, hR, hB⟩
theorem RS.start {W : World} {l : List Pl.Tok} {A : Option Addr} {c : Nat} (hC : Kd.C k160 W A l.length (l.map Pl.tok142)) (hc : l.length ≤ c) (hS : Small l) (hG : Glob W) :
  RS W (W.alloc (.cells #[.slice A l.length c, .slice none 0 0] 146)) l [] :=
 ⟨⟨A, c, .slice none 0 0, blk_new W _, hC, hc, Kd.R_nil _ _ _ _ _⟩, (Below.refl _ _).alloc (Nat.le_refl _) _, hS, by simp, hG⟩
end Go.Proofs.YtbjbpgmjijeppaaGreatDoor.Fn
set_option linter.unusedVariables false
set_option linter.unusedSimpArgs false
namespace Go.Proofs.YtbjbpgmjijeppaaGreatDoor.Fn
open Go.RowKit Go.Proofs.YtbjbpgmjijeppaaGreatDoorW.PrintWords Go.Proofs.YtbjbpgmjijeppaaGreatDoorW.PrintLast Go.Proofs.YtbjbpgmjijeppaaGreatDoorW.PrintMore

/-! Layer 14: mbx.Read -/
def mbx_Read.f (a0 : ByteArray) : Option (List S53 × Int) := if a0.size ≤ 50000 then some ((Pl.readL (Pl.bs a0)).1.map toBox, (Pl.readL (Pl.bs a0)).2) else none
theorem comma_gives {W0 w : World} {l : List Pl.Tok} {bx : List Pl.BoxL} (h : RS W0 w l bx) {q : Bool} (hq : Pl.headIs l [44] = q) :
  Calls Tryz.prog 105 #[.pointer (some ⟨W0.heap.size, 0, none⟩), .string ⟨#[44]⟩] w fun e w' => e = .returned (.bool q) ∧ (q = true → RS W0 w' l.tail bx) ∧ Below W0.heap.size W0 w' := by
 refine (take_gives h hq).mono ?_
 rintro e w' ⟨rfl, h1⟩
 exact ⟨rfl, fun hq => by rw [if_pos hq] at h1; exact h1, h1.below⟩
set_option maxHeartbeats 8000000 in
set_option maxRecDepth 100000 in
theorem mbx_Read.calls (a0 : ByteArray) (r1 : List S53) (r2 : Int) (w : World) (hG : Glob w) (h : mbx_Read.f a0 = some (r1, r2)) :
  Calls Tryz.prog 74 #[.string a0] w fun e w' => ∃ v0_ : Value, e = .returned (.tuple #[v0_, .int .i64 r2]) ∧ Kd.R k53 53 w' w.heap.size (fun _ => True) v0_ r1 ∧ Below w.heap.size w w' := by
 unfold mbx_Read.f at h
 by_cases hs : a0.size ≤ 50000
 case neg => rw [if_neg hs] at h; exact absurd h (by simp)
 rw [if_pos hs] at h
 simp only [Option.some.injEq, Prod.mk.injEq] at h
 obtain ⟨hr1, hr2⟩ := h
 have hsc := Pl.lexScan_is a0 (by omega) (4 * a0.size + 20) (Nat.le_refl _)
 have hbd := Pl.scanL_bound (Pl.bs a0)
 have hok := Pl.scan_ok (Pl.bs a0).length [] .out (Pl.bs a0) (fun x hx => by cases hx)
 rw [show Pl.scan (Pl.bs a0).length [] .out (Pl.bs a0) = Pl.scanL [] .out (Pl.bs a0) from rfl] at hok
 obtain ⟨⟨T, e0⟩, hT⟩ : ∃ x, Pl.scanL [] .out (Pl.bs a0) = x := ⟨_, rfl⟩
 unfold Pl.readL at hr1 hr2
 rw [hT] at hr1 hr2 hsc hbd hok
 rw [Pl.bs_length] at hbd
 have hscan := hid (lex_Scan.calls _ a0 _ _ w hsc)
 have hS : Small T := ⟨by have h1 : T.length ≤ a0.size := hbd.1; omega, by have h1 : (Pl.cat T).length ≤ a0.size := hbd.2; omega, hok⟩
 clear hsc hok hT
 by_cases he : e0 = 0
 case neg =>
  rw [if_pos he] at hr1 hr2
  simp only [List.map_nil] at hr1 hr2
  subst hr1 hr2
  have ce : (e0 != 0) = true := bne_iff_ne.2 he
  clear hS hbd
  go_enter Tryz.func74, Tryz.ntmps74
  go_wp2_with (go_at_call 103; refine hscan.out.mono ?_; rintro e w1 ⟨v0, rfl, hR, b1⟩)
  go_ret2
  exact ⟨_, rfl, Kd.R_nil _ _ _ _ _, b1⟩
 case pos =>
  subst he
  rw [if_neg (by simp)] at hr1 hr2
  obtain ⟨⟨bf, ef⟩, hX⟩ : ∃ x, Pl.readM (T.length + 1) T [] = x := ⟨_, rfl⟩
  unfold Pl.readT at hr1 hr2
  rw [hX] at hr1 hr2
  simp only [] at hr1 hr2
  subst hr1 hr2
  have HX0 := hid hX
  have HS := hid hS
  have HG0 := hid hG
  clear hX hS hbd hG
  go_enter Tryz.func74, Tryz.ntmps74
  go_wp2_with (go_at_call 103; refine hscan.out.mono ?_; rintro e w1 ⟨v0, rfl, hR, b1⟩; obtain ⟨A, c, rfl⟩ := Kd.R_slice hR; have HR := hid hR; have HB1 := hid b1; obtain ⟨n, hn⟩ : ∃ n, (T.map Pl.tok142).length = n := ⟨_, rfl⟩; rw [hn] at HR ⊢; have HN := hid hn; clear hR b1 hn)
  go_loopg [7] (T.length + 1) (fun kq v7 w' => ∃ (l1 : List Pl.Tok) (bx1 : List Pl.BoxL), Hid (Pl.readM kq l1 bx1 = (bf, ef)) ∧ Hid (RS w1 w' l1 bx1) ∧ Hid (l1.length < kq) ∧ Hid (kq ≤ T.length + 1))
  case atStart =>
   refine ⟨T, [], HX0, hid ?_, hid (Nat.lt_succ_self _), hid (Nat.le_refl _)⟩
   obtain ⟨h1, h2, h3⟩ := Kd.R_reads' HR.out
   have hn : n = T.length := by rw [← HN.out, List.length_map]
   subst hn
   rw [List.length_map] at h3
   exact RS.start h3 h2 HS.out (HG0.out.below HB1.out)
  case round =>
   clear HX0 HR HN hscan HS
   obtain ⟨l1, bx1, HX, H, HL, HK⟩ := hrel
   cases gk with
   | zero => exact absurd HL.out (by omega)
   | succ k1 =>
    have hX := HX.out
    clear HX
    rw [Pl.readM] at hX
    obtain ⟨⟨⟨l2, b2⟩, e2⟩, hA⟩ : ∃ x, Pl.itemM l1 bx1 = x := ⟨_, rfl⟩
    rw [hA] at hX
    have HA := hid hA
    clear hA
    by_cases he : e2 = 0
    case neg =>
     rw [if_pos he] at hX
     simp only [Prod.mk.injEq] at hX
     obtain ⟨rfl, rfl⟩ := hX
     have ce : (e2 != 0) = true := bne_iff_ne.2 he
     go_wp2_with (go_at_call 104; refine (item_gives H.out HA.out).mono ?_; rintro e w2 ⟨rfl, h2, b2_⟩; have B2 := hid b2_; clear h2 b2_)
     go_ret2
     exact ⟨_, rfl, Kd.R_nil _ _ _ _ _, HB1.out.trans (B2.out.mono HB1.out.size)⟩
    case pos =>
     subst he
     rw [if_neg (by simp)] at hX
     obtain ⟨_, _, hlt, _⟩ := Pl.item_more HA.out
     have HLT := hid hlt
     clear hlt
     by_cases c3 : l2 = []
     case pos =>
      rw [if_pos c3] at hX
      simp only [Prod.mk.injEq] at hX
      obtain ⟨rfl, rfl⟩ := hX
      subst c3
      go_wp2_with (go_at_call 104; refine (item_gives H.out HA.out).mono ?_; rintro e w2 ⟨rfl, h2, b2_⟩; have H2 := hid (h2 (by trivial)); clear h2 b2_; obtain ⟨A2, ln, c2, v2, hb2, hln, hlc, hA1⟩ := H2.out.holds; rw [List.length_nil] at hln; subst hln; have HBK := hid hb2; have r0 := (blk_cell hb2 0).trans rfl; have r1 := (blk_cell hb2 1).trans rfl; clear hb2 hlc hA1)
      go_ret2
      exact ⟨_, rfl, Kd.R_lower (H2.out.boxes HBK.out) (Nat.le_trans HB1.out.size (Nat.le_succ _)), HB1.out.trans (H2.out.below.mono HB1.out.size)⟩
     case neg =>
      rw [if_neg c3] at hX
      cases c4 : Pl.headIs l2 [44] with
      | false =>
       rw [if_neg (show ¬ Pl.headIs l2 [44] = true by rw [c4]; decide)] at hX
       simp only [Prod.mk.injEq] at hX
       obtain ⟨rfl, rfl⟩ := hX
       have C4 := hid c4
       have C3 := hid c3
       clear c4 c3
       go_wp2_with (first
        | (go_at_call 104; refine (item_gives H.out HA.out).mono ?_; rintro e w2 ⟨rfl, h2, b2_⟩; have H2 := hid (h2 (by trivial)); clear h2 b2_; obtain ⟨A2, ln, c2, v2, hb2, hln, hlc, hA1⟩ := H2.out.holds; have hl0 : ln ≠ 0 := (by rw [hln]; exact fun q => C3.out (List.eq_nil_of_length_eq_zero q)); have cl1 : ((ln : Int) == 0) = false := beq_eq_false_iff_ne.2 (by omega); have cl2 : (ln == 0) = false := beq_eq_false_iff_ne.2 hl0; have r0 := (blk_cell hb2 0).trans rfl; clear hb2 hlc hA1 hln hl0)
        | (go_at_call 105; refine (comma_gives H2.out C4.out).mono ?_; rintro e w3 ⟨rfl, h3, b3⟩; have B3 := hid b3; clear h3 b3))
       go_ret2
       exact ⟨_, rfl, Kd.R_nil _ _ _ _ _, HB1.out.trans (B3.out.mono HB1.out.size)⟩
      | true =>
       rw [if_pos c4] at hX
       have C4 := hid c4
       have C3 := hid c3
       have HX2 := hid hX
       clear c4 c3 hX
       go_wp2_with (first
        | (go_at_call 104; refine (item_gives H.out HA.out).mono ?_; rintro e w2 ⟨rfl, h2, b2_⟩; have H2 := hid (h2 (by trivial)); clear h2 b2_; obtain ⟨A2, ln, c2, v2, hb2, hln, hlc, hA1⟩ := H2.out.holds; have hl0 : ln ≠ 0 := (by rw [hln]; exact fun q => C3.out (List.eq_nil_of_length_eq_zero q)); have cl1 : ((ln : Int) == 0) = false := beq_eq_false_iff_ne.2 (by omega); have cl2 : (ln == 0) = false := beq_eq_false_iff_ne.2 hl0; have r0 := (blk_cell hb2 0).trans rfl; clear hb2 hlc hA1 hln hl0)
        | (go_at_call 105; refine (comma_gives H2.out C4.out).mono ?_; rintro e w3 ⟨rfl, h3, b3⟩; have H3 := hid (h3 (by trivial)); clear h3 b3))
       go_roundg k1
       case measure => have := HK.out; omega
       case rel => exact ⟨l2.tail, b2, HX2, H3, hid (by rw [List.length_tail]; have := HL.out; have := HLT.out; omega), hid (by have := HK.out; omega)⟩
end Go.Proofs.YtbjbpgmjijeppaaGreatDoor.Fn
namespace Go.Proofs.YtbjbpgmjijeppaaGreatDoor.Fn
open Go.RowKit Go.Proofs.YtbjbpgmjijeppaaGreatDoorW.PrintWords Go.Proofs.YtbjbpgmjijeppaaGreatDoorW.PrintLast Go.Proofs.YtbjbpgmjijeppaaGreatDoorW.PrintMore
attribute [local go_sem] max2_int min2_int max_two min_two max_three min_three max_four min_four
set_option linter.unusedVariables false
set_option linter.unusedSimpArgs false

def mbx_One.f (a0 : ByteArray) : Option (ByteArray × ByteArray × ByteArray × Int) := (mbx_Read.f a0).bind fun bt274 => (if bt274.2 = 0 then (if (bt274.1.length : Int) = 1 then (if 0 < (bt274.1.length : Int) then (some ((rd_T53 bt274.1 0).f0, (rd_T53 bt274.1 0).f1.f0, (rd_T53 bt274.1 0).f1.f1, 0)) else (none)) else (some ((⟨#[]⟩ : ByteArray), (⟨#[]⟩ : ByteArray), (⟨#[]⟩ : ByteArray), 130))) else (some ((⟨#[]⟩ : ByteArray), (⟨#[]⟩ : ByteArray), (⟨#[]⟩ : ByteArray), bt274.2)))
set_option maxHeartbeats 8000000 in
set_option maxRecDepth 100000 in
theorem mbx_One.calls (a0 : ByteArray) (r1 : ByteArray) (r2 : ByteArray) (r3 : ByteArray) (r4 : Int) (w : World) (hG : Glob w) (h : mbx_One.f a0 = some (r1, r2, r3, r4)) :
  Calls Tryz.prog 51 #[.string a0] w fun e w' => e = .returned (.tuple #[.agg #[.string r1, .string r2, .string r3], .int .i64 r4]) ∧ Below w.heap.size w w' := by
 have hu53 := Tryz.underlying53; have HB := Aside0.mk (Below.refl w.heap.size w); have H : ((mbx_Read.f a0).bind fun bt274 => (if bt274.2 = 0 then (if (bt274.1.length : Int) = 1 then (if 0 < (bt274.1.length : Int) then (some ((rd_T53 bt274.1 0).f0, (rd_T53 bt274.1 0).f1.f0, (rd_T53 bt274.1 0).f1.f1, 0)) else (none)) else (some ((⟨#[]⟩ : ByteArray), (⟨#[]⟩ : ByteArray), (⟨#[]⟩ : ByteArray), 130))) else (some ((⟨#[]⟩ : ByteArray), (⟨#[]⟩ : ByteArray), (⟨#[]⟩ : ByteArray), bt274.2)))) = some (r1, r2, r3, r4) := h; clear h; replace H := Option.bind_eq_some_iff.mp H; obtain ⟨⟨t274, t275⟩, A20, H⟩ := H; replace H : (if t275 = 0 then (if (t274.length : Int) = 1 then (if 0 < (t274.length : Int) then (some ((rd_T53 t274 0).f0, (rd_T53 t274 0).f1.f0, (rd_T53 t274 0).f1.f1, 0)) else (none)) else (some ((⟨#[]⟩ : ByteArray), (⟨#[]⟩ : ByteArray), (⟨#[]⟩ : ByteArray), 130))) else (some ((⟨#[]⟩ : ByteArray), (⟨#[]⟩ : ByteArray), (⟨#[]⟩ : ByteArray), t275))) = some (r1, r2, r3, r4) := H; have A2 := Aside0.mk A20; clear A20
 by_cases c3 : t275 = 0
 ·rw [if_pos c3] at H; have c3b0 : (t275 == 0) = true := beq_iff_eq.mpr c3; have c3b1 : (t275 != 0) = false := bne_eq_false_iff_eq.mpr c3; clear c3
  by_cases c4 : (t274.length : Int) = 1
  ·rw [if_pos c4] at H; have c4b0 : ((t274.length : Int) == 1) = true := beq_iff_eq.mpr c4; have c4b1 : ((t274.length : Int) != 1) = false := bne_eq_false_iff_eq.mpr c4; clear c4
   by_cases c5 : 0 < (t274.length : Int)
   ·rw [if_pos c5] at H; have c5b0 : decide (0 < (t274.length : Int)) = true := decide_eq_true c5; have c5b1 : decide (0 < t274.length) = true := decide_eq_true (by omega); clear c5; simp only [Option.some.injEq, Prod.mk.injEq] at H; obtain ⟨rfl, rfl, rfl, rfl⟩ := H
    go_enter Tryz.func51, Tryz.ntmps51
    go_wp2_with (first | ((with_reducible refine gate_dst (N := 2) rfl ?_); refine box_event ?hg (N := 2) ?hd (cs := #[.string (⟨#[]⟩ : ByteArray), .string (⟨#[]⟩ : ByteArray), .string (⟨#[]⟩ : ByteArray)]) (t := 53) ?hr ?_; (case hd => rfl); (case hg => rfl); (case hr => first | (go_simp; done) | (go_simp; rfl)); intro gb273 hg w6 hbox hb; have n0_ := Aside0.mk (below_step bw hb); have n1_ := Aside0.mk (hbox); have n2_ := Aside0.mk ((by rw [hg]; exact (below_size bw) : w.heap.size ≤ gb273)); have n3_ := Aside0.mk ((by rw [hg]; exact (below_size bw) : w.heap.size ≤ gb273)); clear HB; have HB := n0_; have BK273 := n1_; have GW273 := n2_; have GE273 := n3_; clear n0_ n1_ n2_ n3_; clear hb hbox hg) | ((with_reducible refine gate_callee (f := 74) rfl ?_); refine goesL_ (some 8) rfl rfl Tryz.func74 (by kernel_rfl) rfl #[.string a0] rfl am ?_; (with_reducible refine (mbx_Read.calls (hG := by first | exact hG | exact Glob.below hG (by first | exact HB.out | (repeat (first | (with_reducible first | exact HB.out | apply below_alloc | apply pw_below_drewN | apply below_drew1 | refine below_set ?_ GE273.out) | exact HB.out))) | exact Glob.drawn hG (d0)) a0 t274 t275 _ A2.out).mono ?_); rintro e w7 ⟨v276, rfl, ho0, hb⟩; refine ⟨_, rfl, ?_⟩; have n0_ := Aside0.mk (Kd.R_lower (Kd.R_newB ho0 (g := gb273) (o := .cells #[.string (⟨#[]⟩ : ByteArray), .string (⟨#[]⟩ : ByteArray), .string (⟨#[]⟩ : ByteArray)] 53 (0, 0)) bk) (below_size bwS)); have n1_ := Aside0.mk (blk_below (g := gb273) (o := .cells #[.string (⟨#[]⟩ : ByteArray), .string (⟨#[]⟩ : ByteArray), .string (⟨#[]⟩ : ByteArray)] 53 (0, 0)) bk hb); have n2_ := Aside0.mk (below_step bwS hb); clear BK273; clear HB; have HO277 := n0_; have BK273 := n1_; have HB := n2_; clear n0_ n1_ n2_; (try clear hb); (try clear hb2); (try clear hk); (try clear hi); (try clear ho0); obtain ⟨Ao8, co8, eo8⟩ := Kd.R_slice HO277.out; subst eo8; have p278 : 0 ≤ (0 : Int) := (by omega); have q278 : 0 < (t274.length : Int) := od; obtain ⟨ad278, e278, hx278_0, hx278_1, hx278_2⟩ := at_T53 (Kd.R_reads' HO277.out).2.2 0 p278 q278; cases e278; have qi278 : (0 < t274.length) = True := eq_true (by omega); (try rw [show ((0 : Int)).toNat = 0 from rfl] at hx278_0); (try rw [show 0 * 3 = 0 from rfl] at hx278_0); (try rw [Addr.add_zero'] at hx278_0); (try rw [show ((0 : Int)).toNat = 0 from rfl] at hx278_1); (try rw [show 0 * 3 = 0 from rfl] at hx278_1); (try rw [Addr.add_zero'] at hx278_1); (try rw [show ((0 : Int)).toNat = 0 from rfl] at hx278_2); (try rw [show 0 * 3 = 0 from rfl] at hx278_2); (try rw [Addr.add_zero'] at hx278_2); replace p278 := eq_true p278; replace q278 := eq_true q278; have hcz9_0 : w7.cell? ⟨gb273, 0, none⟩ = some (.string (⟨#[]⟩ : ByteArray)) := (blk_cell BK273.out 0).trans rfl; have hcz9_1 : w7.cell? ⟨gb273, 1, none⟩ = some (.string (⟨#[]⟩ : ByteArray)) := (blk_cell BK273.out 1).trans rfl; have hcz9_2 : w7.cell? ⟨gb273, 2, none⟩ = some (.string (⟨#[]⟩ : ByteArray)) := (blk_cell BK273.out 2).trans rfl; have hfz9_0 := blk_frozen BK273.out 0; have hfz9_1 := blk_frozen BK273.out 1; have hfz9_2 := blk_frozen BK273.out 2))
    refine bodyPost_ret (results_ct rfl _ _ gb273 53 #[.string ((rd_T53 t274 0).f0), .string ((rd_T53 t274 0).f1.f0), .string ((rd_T53 t274 0).f1.f1)] (0, 0) _ rfl (by (with_reducible repeat (first | refine blk_drewN ?_ _ | refine blk_drew ?_ | refine blk_alloc ?_ _)); refine blk_put (cs := #[.string ((rd_T53 t274 0).f0), .string ((rd_T53 t274 0).f1.f0), .string (⟨#[]⟩ : ByteArray)]) ?_ 2 _ rfl; (with_reducible repeat (first | refine blk_drewN ?_ _ | refine blk_drew ?_ | refine blk_alloc ?_ _)); refine blk_put (cs := #[.string ((rd_T53 t274 0).f0), .string (⟨#[]⟩ : ByteArray), .string (⟨#[]⟩ : ByteArray)]) ?_ 1 _ rfl; (with_reducible repeat (first | refine blk_drewN ?_ _ | refine blk_drew ?_ | refine blk_alloc ?_ _)); exact blk_put (cs := #[.string (⟨#[]⟩ : ByteArray), .string (⟨#[]⟩ : ByteArray), .string (⟨#[]⟩ : ByteArray)]) bk 0 _ rfl) Tryz.underlying53 rfl (by kernel_rfl)) rfl ?_; exact ⟨ew, bwS⟩
   ·rw [if_neg c5] at H; exact absurd H (by simp)
  ·rw [if_neg c4] at H; have c4b0 : ((t274.length : Int) == 1) = false := beq_eq_false_iff_ne.mpr c4; have c4b1 : ((t274.length : Int) != 1) = true := bne_iff_ne.mpr c4; simp only [Option.some.injEq, Prod.mk.injEq] at H; obtain ⟨rfl, rfl, rfl, rfl⟩ := H
   go_enter Tryz.func51, Tryz.ntmps51
   go_wp2_with (first | ((with_reducible refine gate_dst (N := 2) rfl ?_); refine box_event ?hg (N := 2) ?hd (cs := #[.string (⟨#[]⟩ : ByteArray), .string (⟨#[]⟩ : ByteArray), .string (⟨#[]⟩ : ByteArray)]) (t := 53) ?hr ?_; (case hd => rfl); (case hg => rfl); (case hr => first | (go_simp; done) | (go_simp; rfl)); intro gb273 hg w10 hbox hb; have n0_ := Aside0.mk (below_step bw hb); have n1_ := Aside0.mk (hbox); have n2_ := Aside0.mk ((by rw [hg]; exact (below_size bw) : w.heap.size ≤ gb273)); have n3_ := Aside0.mk ((by rw [hg]; exact (below_size bw) : w.heap.size ≤ gb273)); clear HB; have HB := n0_; have BK273 := n1_; have GW273 := n2_; have GE273 := n3_; clear n0_ n1_ n2_ n3_; clear hb hbox hg) | ((with_reducible refine gate_callee (f := 74) rfl ?_); refine goesL_ (some 8) rfl rfl Tryz.func74 (by kernel_rfl) rfl #[.string a0] rfl am ?_; (with_reducible refine (mbx_Read.calls (hG := by first | exact hG | exact Glob.below hG (by first | exact HB.out | (repeat (first | (with_reducible first | exact HB.out | apply below_alloc | apply pw_below_drewN | apply below_drew1 | refine below_set ?_ GE273.out) | exact HB.out))) | exact Glob.drawn hG (d0)) a0 t274 t275 _ A2.out).mono ?_); rintro e w11 ⟨v276, rfl, ho0, hb⟩; refine ⟨_, rfl, ?_⟩; have n0_ := Aside0.mk (Kd.R_lower (Kd.R_newB ho0 (g := gb273) (o := .cells #[.string (⟨#[]⟩ : ByteArray), .string (⟨#[]⟩ : ByteArray), .string (⟨#[]⟩ : ByteArray)] 53 (0, 0)) bk) (below_size bwS)); have n1_ := Aside0.mk (blk_below (g := gb273) (o := .cells #[.string (⟨#[]⟩ : ByteArray), .string (⟨#[]⟩ : ByteArray), .string (⟨#[]⟩ : ByteArray)] 53 (0, 0)) bk hb); have n2_ := Aside0.mk (below_step bwS hb); clear BK273; clear HB; have HO277 := n0_; have BK273 := n1_; have HB := n2_; clear n0_ n1_ n2_; (try clear hb); (try clear hb2); (try clear hk); (try clear hi); (try clear ho0); obtain ⟨Ao12, co12, eo12⟩ := Kd.R_slice HO277.out; subst eo12; have hcz13_0 : w11.cell? ⟨gb273, 0, none⟩ = some (.string (⟨#[]⟩ : ByteArray)) := (blk_cell BK273.out 0).trans rfl; have hcz13_1 : w11.cell? ⟨gb273, 1, none⟩ = some (.string (⟨#[]⟩ : ByteArray)) := (blk_cell BK273.out 1).trans rfl; have hcz13_2 : w11.cell? ⟨gb273, 2, none⟩ = some (.string (⟨#[]⟩ : ByteArray)) := (blk_cell BK273.out 2).trans rfl; have hfz13_0 := blk_frozen BK273.out 0; have hfz13_1 := blk_frozen BK273.out 1; have hfz13_2 := blk_frozen BK273.out 2))
   refine bodyPost_ret (results_ct rfl _ _ gb273 53 #[.string (⟨#[]⟩ : ByteArray), .string (⟨#[]⟩ : ByteArray), .string (⟨#[]⟩ : ByteArray)] (0, 0) _ rfl (by (with_reducible repeat (first | refine blk_drewN ?_ _ | refine blk_drew ?_ | refine blk_alloc ?_ _)); refine blk_put (cs := #[.string (⟨#[]⟩ : ByteArray), .string (⟨#[]⟩ : ByteArray), .string (⟨#[]⟩ : ByteArray)]) ?_ 2 _ rfl; (with_reducible repeat (first | refine blk_drewN ?_ _ | refine blk_drew ?_ | refine blk_alloc ?_ _)); refine blk_put (cs := #[.string (⟨#[]⟩ : ByteArray), .string (⟨#[]⟩ : ByteArray), .string (⟨#[]⟩ : ByteArray)]) ?_ 1 _ rfl; (with_reducible repeat (first | refine blk_drewN ?_ _ | refine blk_drew ?_ | refine blk_alloc ?_ _)); exact blk_put (cs := #[.string (⟨#[]⟩ : ByteArray), .string (⟨#[]⟩ : ByteArray), .string (⟨#[]⟩ : ByteArray)]) bk 0 _ rfl) Tryz.underlying53 rfl (by kernel_rfl)) rfl ?_; exact ⟨ew, bwS⟩
 ·rw [if_neg c3] at H; have c3b0 : (t275 == 0) = false := beq_eq_false_iff_ne.mpr c3; have c3b1 : (t275 != 0) = true := bne_iff_ne.mpr c3; simp only [Option.some.injEq, Prod.mk.injEq] at H; obtain ⟨rfl, rfl, rfl, rfl⟩ := H
  go_enter Tryz.func51, Tryz.ntmps51
  go_wp2_with (first | ((with_reducible refine gate_dst (N := 2) rfl ?_); refine box_event ?hg (N := 2) ?hd (cs := #[.string (⟨#[]⟩ : ByteArray), .string (⟨#[]⟩ : ByteArray), .string (⟨#[]⟩ : ByteArray)]) (t := 53) ?hr ?_; (case hd => rfl); (case hg => rfl); (case hr => first | (go_simp; done) | (go_simp; rfl)); intro gb273 hg w14 hbox hb; have n0_ := Aside0.mk (below_step bw hb); have n1_ := Aside0.mk (hbox); have n2_ := Aside0.mk ((by rw [hg]; exact (below_size bw) : w.heap.size ≤ gb273)); have n3_ := Aside0.mk ((by rw [hg]; exact (below_size bw) : w.heap.size ≤ gb273)); clear HB; have HB := n0_; have BK273 := n1_; have GW273 := n2_; have GE273 := n3_; clear n0_ n1_ n2_ n3_; clear hb hbox hg) | ((with_reducible refine gate_callee (f := 74) rfl ?_); refine goesL_ (some 8) rfl rfl Tryz.func74 (by kernel_rfl) rfl #[.string a0] rfl am ?_; (with_reducible refine (mbx_Read.calls (hG := by first | exact hG | exact Glob.below hG (by first | exact HB.out | (repeat (first | (with_reducible first | exact HB.out | apply below_alloc | apply pw_below_drewN | apply below_drew1 | refine below_set ?_ GE273.out) | exact HB.out))) | exact Glob.drawn hG (d0)) a0 t274 t275 _ A2.out).mono ?_); rintro e w15 ⟨v276, rfl, ho0, hb⟩; refine ⟨_, rfl, ?_⟩; have n0_ := Aside0.mk (Kd.R_lower (Kd.R_newB ho0 (g := gb273) (o := .cells #[.string (⟨#[]⟩ : ByteArray), .string (⟨#[]⟩ : ByteArray), .string (⟨#[]⟩ : ByteArray)] 53 (0, 0)) bk) (below_size bwS)); have n1_ := Aside0.mk (blk_below (g := gb273) (o := .cells #[.string (⟨#[]⟩ : ByteArray), .string (⟨#[]⟩ : ByteArray), .string (⟨#[]⟩ : ByteArray)] 53 (0, 0)) bk hb); have n2_ := Aside0.mk (below_step bwS hb); clear BK273; clear HB; have HO277 := n0_; have BK273 := n1_; have HB := n2_; clear n0_ n1_ n2_; (try clear hb); (try clear hb2); (try clear hk); (try clear hi); (try clear ho0); have hcz16_0 : w15.cell? ⟨gb273, 0, none⟩ = some (.string (⟨#[]⟩ : ByteArray)) := (blk_cell BK273.out 0).trans rfl; have hcz16_1 : w15.cell? ⟨gb273, 1, none⟩ = some (.string (⟨#[]⟩ : ByteArray)) := (blk_cell BK273.out 1).trans rfl; have hcz16_2 : w15.cell? ⟨gb273, 2, none⟩ = some (.string (⟨#[]⟩ : ByteArray)) := (blk_cell BK273.out 2).trans rfl; have hfz16_0 := blk_frozen BK273.out 0; have hfz16_1 := blk_frozen BK273.out 1; have hfz16_2 := blk_frozen BK273.out 2))
  refine bodyPost_ret (results_ct rfl _ _ gb273 53 #[.string (⟨#[]⟩ : ByteArray), .string (⟨#[]⟩ : ByteArray), .string (⟨#[]⟩ : ByteArray)] (0, 0) _ rfl (by (with_reducible repeat (first | refine blk_drewN ?_ _ | refine blk_drew ?_ | refine blk_alloc ?_ _)); refine blk_put (cs := #[.string (⟨#[]⟩ : ByteArray), .string (⟨#[]⟩ : ByteArray), .string (⟨#[]⟩ : ByteArray)]) ?_ 2 _ rfl; (with_reducible repeat (first | refine blk_drewN ?_ _ | refine blk_drew ?_ | refine blk_alloc ?_ _)); refine blk_put (cs := #[.string (⟨#[]⟩ : ByteArray), .string (⟨#[]⟩ : ByteArray), .string (⟨#[]⟩ : ByteArray)]) ?_ 1 _ rfl; (with_reducible repeat (first | refine blk_drewN ?_ _ | refine blk_drew ?_ | refine blk_alloc ?_ _)); exact blk_put (cs := #[.string (⟨#[]⟩ : ByteArray), .string (⟨#[]⟩ : ByteArray), .string (⟨#[]⟩ : ByteArray)]) bk 0 _ rfl) Tryz.underlying53 rfl (by kernel_rfl)) rfl ?_; exact ⟨ew, bwS⟩

end Go.Proofs.YtbjbpgmjijeppaaGreatDoor.Fn
namespace Go.Proofs.YtbjbpgmjijeppaaGreatDoor.Fn
open Go.RowKit Go.Proofs.YtbjbpgmjijeppaaGreatDoorW.PrintWords Go.Proofs.YtbjbpgmjijeppaaGreatDoorW.PrintLast Go.Proofs.YtbjbpgmjijeppaaGreatDoorW.PrintMore
attribute [local go_sem] max2_int min2_int max_two min_two max_three min_three max_four min_four
set_option linter.unusedVariables false
set_option linter.unusedSimpArgs false

def msg_Message_From.f (k : Nat) (l0_0 : List (S46)) (a0_1 : ByteArray) : Option (ByteArray × ByteArray × ByteArray × Int) := (head_All.f k l0_0 (⟨#[70, 114, 111, 109]⟩ : ByteArray)).bind fun t281 => (if (t281.length : Int) = 0 then (some ((⟨#[]⟩ : ByteArray), (⟨#[]⟩ : ByteArray), (⟨#[]⟩ : ByteArray), 6)) else (if (t281.length : Int) > 1 then (some ((⟨#[]⟩ : ByteArray), (⟨#[]⟩ : ByteArray), (⟨#[]⟩ : ByteArray), 7)) else (if 0 < (t281.length : Int) then ((mbx_One.f (rdOf ByteArray.empty t281 0)).bind fun bt285 => (some (bt285.1, bt285.2.1, bt285.2.2.1, bt285.2.2.2))) else (none))))
theorem msg_Message_From.mono : ∀ a0 a1 k, LeO (msg_Message_From.f k a0 a1) (msg_Message_From.f (k + 1) a0 a1) := by
 intro a0 a1 k; unfold msg_Message_From.f
 repeat' first
   | (with_reducible exact head_All.mono _ _ _)
   | (with_reducible exact LeO.refl _)
   | (with_reducible exact LeO.none _)
   | (with_reducible refine LeO.ite ?_ ?_)
   | (with_reducible refine LeO.bind ?_ (fun _ => ?_))
   | exact head_All.mono _ _ _
   | exact LeO.none _
   | refine LeO.ite ?_ ?_
   | refine LeO.bind ?_ (fun _ => ?_)
set_option maxHeartbeats 8000000 in
set_option maxRecDepth 100000 in
theorem msg_Message_From.calls (k : Nat) (A0_0 : Option Addr) (c0_0 : Nat) (l0_0 : List (S46)) (a0_1 : ByteArray) (r1 : ByteArray) (r2 : ByteArray) (r3 : ByteArray) (r4 : Int) (w : World) (hG : Glob w) (hr0_0 : Kd.C k46 w A0_0 l0_0.length l0_0) (hc0_0 : l0_0.length ≤ c0_0) (h : msg_Message_From.f k l0_0 a0_1 = some (r1, r2, r3, r4)) :
  Calls Tryz.prog 22 #[.agg #[.slice A0_0 l0_0.length c0_0, .string a0_1]] w fun e w' => e = .returned (.tuple #[.agg #[.string r1, .string r2, .string r3], .int .i64 r4]) ∧ Below w.heap.size w w' := by
 have hu25 := Tryz.underlying25; have hu53 := Tryz.underlying53; have HR0_0 := Aside0.mk hr0_0; have HC0_0 := Aside0.mk hc0_0; clear hr0_0 hc0_0; have HB := Aside0.mk (Below.refl w.heap.size w); have H : ((head_All.f k l0_0 (⟨#[70, 114, 111, 109]⟩ : ByteArray)).bind fun t281 => (if (t281.length : Int) = 0 then (some ((⟨#[]⟩ : ByteArray), (⟨#[]⟩ : ByteArray), (⟨#[]⟩ : ByteArray), 6)) else (if (t281.length : Int) > 1 then (some ((⟨#[]⟩ : ByteArray), (⟨#[]⟩ : ByteArray), (⟨#[]⟩ : ByteArray), 7)) else (if 0 < (t281.length : Int) then ((mbx_One.f (rdOf ByteArray.empty t281 0)).bind fun bt285 => (some (bt285.1, bt285.2.1, bt285.2.2.1, bt285.2.2.2))) else (none))))) = some (r1, r2, r3, r4) := h; clear h; replace H := Option.bind_eq_some_iff.mp H; obtain ⟨t281, A20, H⟩ := H; replace H : (if (t281.length : Int) = 0 then (some ((⟨#[]⟩ : ByteArray), (⟨#[]⟩ : ByteArray), (⟨#[]⟩ : ByteArray), 6)) else (if (t281.length : Int) > 1 then (some ((⟨#[]⟩ : ByteArray), (⟨#[]⟩ : ByteArray), (⟨#[]⟩ : ByteArray), 7)) else (if 0 < (t281.length : Int) then ((mbx_One.f (rdOf ByteArray.empty t281 0)).bind fun bt285 => (some (bt285.1, bt285.2.1, bt285.2.2.1, bt285.2.2.2))) else (none)))) = some (r1, r2, r3, r4) := H; have A2 := Aside0.mk A20; clear A20
 by_cases c3 : (t281.length : Int) = 0
 ·rw [if_pos c3] at H; have c3b0 : ((t281.length : Int) == 0) = true := beq_iff_eq.mpr c3; have c3b1 : ((t281.length : Int) != 0) = false := bne_eq_false_iff_eq.mpr c3; clear c3; simp only [Option.some.injEq, Prod.mk.injEq] at H; obtain ⟨rfl, rfl, rfl, rfl⟩ := H
  go_enter Tryz.func22, Tryz.ntmps22
  go_wp2_with (first | ((with_reducible refine gate_dst (N := 1) rfl ?_); refine box_event ?hg (N := 1) ?hd (cs := #[.slice A0_0 l0_0.length c0_0, .string a0_1]) (t := 25) ?hr ?_; (case hd => rfl); (case hg => rfl); (case hr => first | (go_simp; done) | (go_simp; rfl)); intro gb279 hg w4 hbox hb; have n0_ := Aside0.mk (below_step bw hb); have n1_ := Aside0.mk (hbox); have n2_ := Aside0.mk ((by rw [hg]; exact (below_size bw) : w.heap.size ≤ gb279)); have n3_ := Aside0.mk ((by rw [hg]; exact (below_size bw) : w.heap.size ≤ gb279)); clear HB; have HB := n0_; have BK279 := n1_; have GW279 := n2_; have GE279 := n3_; clear n0_ n1_ n2_ n3_; clear hb hbox hg) | ((with_reducible refine gate_dst (N := 2) rfl ?_); refine box_event ?hg (N := 2) ?hd (cs := #[.string (⟨#[]⟩ : ByteArray), .string (⟨#[]⟩ : ByteArray), .string (⟨#[]⟩ : ByteArray)]) (t := 53) ?hr ?_; (case hd => rfl); (case hg => rfl); (case hr => first | (go_simp; done) | (go_simp; rfl)); intro gb280 hg w5 hbox hb; have n0_ := Aside0.mk (blk_below (g := gb279) (o := .cells #[.slice A0_0 l0_0.length c0_0, .string a0_1] 25 (0, 0)) bk hb); have n1_ := Aside0.mk (below_step bwS hb); have n2_ := Aside0.mk (hbox); have n3_ := Aside0.mk ((by rw [hg]; exact (below_size bwS) : w.heap.size ≤ gb280)); have n4_ := Aside0.mk ((by rw [hg]; exact (below_size bwS) : w.heap.size ≤ gb280)); have n5_ := Aside0.mk ((by rw [hg]; exact Nat.ne_of_lt (blk_lt (g := gb279) (o := .cells #[.slice A0_0 l0_0.length c0_0, .string a0_1] 25 (0, 0)) bk) : gb279 ≠ gb280)); have n6_ := Aside0.mk ((by rw [hg]; exact Nat.ne_of_gt (blk_lt (g := gb279) (o := .cells #[.slice A0_0 l0_0.length c0_0, .string a0_1] 25 (0, 0)) bk) : gb280 ≠ gb279)); clear BK279; clear HB; have BK279 := n0_; have HB := n1_; have BK280 := n2_; have GW280 := n3_; have GE280 := n4_; have NB279_280 := n5_; have NB280_279 := n6_; clear n0_ n1_ n2_ n3_ n4_ n5_ n6_; clear hb hbox hg; have hnb6 := NB279_280.out; have hnc6 := NB280_279.out; have hcz7_0 : w5.cell? ⟨gb279, 0, none⟩ = some (.slice A0_0 l0_0.length c0_0) := (blk_cell BK279.out 0).trans rfl; have hcz7_1 : w5.cell? ⟨gb279, 1, none⟩ = some (.string a0_1) := (blk_cell BK279.out 1).trans rfl; have hfz7_0 := blk_frozen BK279.out 0; have hfz7_1 := blk_frozen BK279.out 1) | ((with_reducible refine gate_callee (f := 50) rfl ?_); refine goesL_ (some 7) rfl rfl Tryz.func50 (by kernel_rfl) rfl #[.slice A0_0 l0_0.length c0_0, .string (⟨#[70, 114, 111, 109]⟩ : ByteArray)] rfl am ?_; (with_reducible refine (head_All.calls k _ _ l0_0 (⟨#[70, 114, 111, 109]⟩ : ByteArray) t281 _ ?side1 ?side2 A2.out).mono ?_); (case side1 => repeat (first | exact (Kd.C_below HR0_0.out HB.out) | (with_reducible refine Kd.C_alloc ?_ _) | (with_reducible refine Kd.C_drewN ?_ _) | (with_reducible refine Kd.C_drew ?_))); (case side2 => exact HC0_0.out); rintro e w8 ⟨v282, rfl, ho0, hb⟩; refine ⟨_, rfl, ?_⟩; have n0_ := Aside0.mk (Kd.R_lower ho0 (below_size bwS)); have n1_ := Aside0.mk (blk_below (g := gb279) (o := .cells #[.slice A0_0 l0_0.length c0_0, .string a0_1] 25 (0, 0)) bk hb); have n2_ := Aside0.mk (blk_below (g := gb280) (o := .cells #[.string (⟨#[]⟩ : ByteArray), .string (⟨#[]⟩ : ByteArray), .string (⟨#[]⟩ : ByteArray)] 53 (0, 0)) bk hb); have n3_ := Aside0.mk (below_step bwS hb); clear BK279; clear BK280; clear HB; have HO283 := n0_; have BK279 := n1_; have BK280 := n2_; have HB := n3_; clear n0_ n1_ n2_ n3_; (try clear hb); (try clear hb2); (try clear hk); (try clear hi); (try clear ho0); obtain ⟨Ao9, co9, eo9⟩ := Kd.R_slice HO283.out; subst eo9; have hcz10_0 : w8.cell? ⟨gb280, 0, none⟩ = some (.string (⟨#[]⟩ : ByteArray)) := (blk_cell BK280.out 0).trans rfl; have hcz10_1 : w8.cell? ⟨gb280, 1, none⟩ = some (.string (⟨#[]⟩ : ByteArray)) := (blk_cell BK280.out 1).trans rfl; have hcz10_2 : w8.cell? ⟨gb280, 2, none⟩ = some (.string (⟨#[]⟩ : ByteArray)) := (blk_cell BK280.out 2).trans rfl; have hfz10_0 := blk_frozen BK280.out 0; have hfz10_1 := blk_frozen BK280.out 1; have hfz10_2 := blk_frozen BK280.out 2))
  refine bodyPost_ret (results_ct rfl _ _ gb280 53 #[.string (⟨#[]⟩ : ByteArray), .string (⟨#[]⟩ : ByteArray), .string (⟨#[]⟩ : ByteArray)] (0, 0) _ rfl (by (with_reducible repeat (first | refine blk_drewN ?_ _ | refine blk_drew ?_ | refine blk_alloc ?_ _)); refine blk_put (cs := #[.string (⟨#[]⟩ : ByteArray), .string (⟨#[]⟩ : ByteArray), .string (⟨#[]⟩ : ByteArray)]) ?_ 2 _ rfl; (with_reducible repeat (first | refine blk_drewN ?_ _ | refine blk_drew ?_ | refine blk_alloc ?_ _)); refine blk_put (cs := #[.string (⟨#[]⟩ : ByteArray), .string (⟨#[]⟩ : ByteArray), .string (⟨#[]⟩ : ByteArray)]) ?_ 1 _ rfl; (with_reducible repeat (first | refine blk_drewN ?_ _ | refine blk_drew ?_ | refine blk_alloc ?_ _)); exact blk_put (cs := #[.string (⟨#[]⟩ : ByteArray), .string (⟨#[]⟩ : ByteArray), .string (⟨#[]⟩ : ByteArray)]) bk 0 _ rfl) Tryz.underlying53 rfl (by kernel_rfl)) rfl ?_; exact ⟨ew, bwS⟩
 ·rw [if_neg c3] at H; have c3b0 : ((t281.length : Int) == 0) = false := beq_eq_false_iff_ne.mpr c3; have c3b1 : ((t281.length : Int) != 0) = true := bne_iff_ne.mpr c3; have c3b2 : ¬ (t281 = []) := fun h_ => c3 (by rw [h_]; rfl)
  by_cases c11 : (t281.length : Int) > 1
  ·rw [if_pos c11] at H; have c11b0 : decide (1 < (t281.length : Int)) = true := decide_eq_true c11; have c11b1 : decide (1 < t281.length) = true := decide_eq_true (by omega); clear c11; simp only [Option.some.injEq, Prod.mk.injEq] at H; obtain ⟨rfl, rfl, rfl, rfl⟩ := H
   go_enter Tryz.func22, Tryz.ntmps22
   go_wp2_with (first | ((with_reducible refine gate_dst (N := 1) rfl ?_); refine box_event ?hg (N := 1) ?hd (cs := #[.slice A0_0 l0_0.length c0_0, .string a0_1]) (t := 25) ?hr ?_; (case hd => rfl); (case hg => rfl); (case hr => first | (go_simp; done) | (go_simp; rfl)); intro gb279 hg w12 hbox hb; have n0_ := Aside0.mk (below_step bw hb); have n1_ := Aside0.mk (hbox); have n2_ := Aside0.mk ((by rw [hg]; exact (below_size bw) : w.heap.size ≤ gb279)); have n3_ := Aside0.mk ((by rw [hg]; exact (below_size bw) : w.heap.size ≤ gb279)); clear HB; have HB := n0_; have BK279 := n1_; have GW279 := n2_; have GE279 := n3_; clear n0_ n1_ n2_ n3_; clear hb hbox hg) | ((with_reducible refine gate_dst (N := 2) rfl ?_); refine box_event ?hg (N := 2) ?hd (cs := #[.string (⟨#[]⟩ : ByteArray), .string (⟨#[]⟩ : ByteArray), .string (⟨#[]⟩ : ByteArray)]) (t := 53) ?hr ?_; (case hd => rfl); (case hg => rfl); (case hr => first | (go_simp; done) | (go_simp; rfl)); intro gb280 hg w13 hbox hb; have n0_ := Aside0.mk (blk_below (g := gb279) (o := .cells #[.slice A0_0 l0_0.length c0_0, .string a0_1] 25 (0, 0)) bk hb); have n1_ := Aside0.mk (below_step bwS hb); have n2_ := Aside0.mk (hbox); have n3_ := Aside0.mk ((by rw [hg]; exact (below_size bwS) : w.heap.size ≤ gb280)); have n4_ := Aside0.mk ((by rw [hg]; exact (below_size bwS) : w.heap.size ≤ gb280)); have n5_ := Aside0.mk ((by rw [hg]; exact Nat.ne_of_lt (blk_lt (g := gb279) (o := .cells #[.slice A0_0 l0_0.length c0_0, .string a0_1] 25 (0, 0)) bk) : gb279 ≠ gb280)); have n6_ := Aside0.mk ((by rw [hg]; exact Nat.ne_of_gt (blk_lt (g := gb279) (o := .cells #[.slice A0_0 l0_0.length c0_0, .string a0_1] 25 (0, 0)) bk) : gb280 ≠ gb279)); clear BK279; clear HB; have BK279 := n0_; have HB := n1_; have BK280 := n2_; have GW280 := n3_; have GE280 := n4_; have NB279_280 := n5_; have NB280_279 := n6_; clear n0_ n1_ n2_ n3_ n4_ n5_ n6_; clear hb hbox hg; have hnb14 := NB279_280.out; have hnc14 := NB280_279.out; have hcz15_0 : w13.cell? ⟨gb279, 0, none⟩ = some (.slice A0_0 l0_0.length c0_0) := (blk_cell BK279.out 0).trans rfl; have hcz15_1 : w13.cell? ⟨gb279, 1, none⟩ = some (.string a0_1) := (blk_cell BK279.out 1).trans rfl; have hfz15_0 := blk_frozen BK279.out 0; have hfz15_1 := blk_frozen BK279.out 1) | ((with_reducible refine gate_callee (f := 50) rfl ?_); refine goesL_ (some 7) rfl rfl Tryz.func50 (by kernel_rfl) rfl #[.slice A0_0 l0_0.length c0_0, .string (⟨#[70, 114, 111, 109]⟩ : ByteArray)] rfl am ?_; (with_reducible refine (head_All.calls k _ _ l0_0 (⟨#[70, 114, 111, 109]⟩ : ByteArray) t281 _ ?side1 ?side2 A2.out).mono ?_); (case side1 => repeat (first | exact (Kd.C_below HR0_0.out HB.out) | (with_reducible refine Kd.C_alloc ?_ _) | (with_reducible refine Kd.C_drewN ?_ _) | (with_reducible refine Kd.C_drew ?_))); (case side2 => exact HC0_0.out); rintro e w16 ⟨v282, rfl, ho0, hb⟩; refine ⟨_, rfl, ?_⟩; have n0_ := Aside0.mk (Kd.R_lower ho0 (below_size bwS)); have n1_ := Aside0.mk (blk_below (g := gb279) (o := .cells #[.slice A0_0 l0_0.length c0_0, .string a0_1] 25 (0, 0)) bk hb); have n2_ := Aside0.mk (blk_below (g := gb280) (o := .cells #[.string (⟨#[]⟩ : ByteArray), .string (⟨#[]⟩ : ByteArray), .string (⟨#[]⟩ : ByteArray)] 53 (0, 0)) bk hb); have n3_ := Aside0.mk (below_step bwS hb); clear BK279; clear BK280; clear HB; have HO283 := n0_; have BK279 := n1_; have BK280 := n2_; have HB := n3_; clear n0_ n1_ n2_ n3_; (try clear hb); (try clear hb2); (try clear hk); (try clear hi); (try clear ho0); obtain ⟨Ao17, co17, eo17⟩ := Kd.R_slice HO283.out; subst eo17; have hcz18_0 : w16.cell? ⟨gb280, 0, none⟩ = some (.string (⟨#[]⟩ : ByteArray)) := (blk_cell BK280.out 0).trans rfl; have hcz18_1 : w16.cell? ⟨gb280, 1, none⟩ = some (.string (⟨#[]⟩ : ByteArray)) := (blk_cell BK280.out 1).trans rfl; have hcz18_2 : w16.cell? ⟨gb280, 2, none⟩ = some (.string (⟨#[]⟩ : ByteArray)) := (blk_cell BK280.out 2).trans rfl; have hfz18_0 := blk_frozen BK280.out 0; have hfz18_1 := blk_frozen BK280.out 1; have hfz18_2 := blk_frozen BK280.out 2))
   refine bodyPost_ret (results_ct rfl _ _ gb280 53 #[.string (⟨#[]⟩ : ByteArray), .string (⟨#[]⟩ : ByteArray), .string (⟨#[]⟩ : ByteArray)] (0, 0) _ rfl (by (with_reducible repeat (first | refine blk_drewN ?_ _ | refine blk_drew ?_ | refine blk_alloc ?_ _)); refine blk_put (cs := #[.string (⟨#[]⟩ : ByteArray), .string (⟨#[]⟩ : ByteArray), .string (⟨#[]⟩ : ByteArray)]) ?_ 2 _ rfl; (with_reducible repeat (first | refine blk_drewN ?_ _ | refine blk_drew ?_ | refine blk_alloc ?_ _)); refine blk_put (cs := #[.string (⟨#[]⟩ : ByteArray), .string (⟨#[]⟩ : ByteArray), .string (⟨#[]⟩ : ByteArray)]) ?_ 1 _ rfl; (with_reducible repeat (first | refine blk_drewN ?_ _ | refine blk_drew ?_ | refine blk_alloc ?_ _)); exact blk_put (cs := #[.string (⟨#[]⟩ : ByteArray), .string (⟨#[]⟩ : ByteArray), .string (⟨#[]⟩ : ByteArray)]) bk 0 _ rfl) Tryz.underlying53 rfl (by kernel_rfl)) rfl ?_; exact ⟨ew, bwS⟩
  ·rw [if_neg c11] at H; have c11b0 : decide (1 < (t281.length : Int)) = false := decide_eq_false c11; have c11b1 : decide (1 < t281.length) = false := decide_eq_false (by omega); clear c11
   by_cases c19 : 0 < (t281.length : Int)
   ·rw [if_pos c19] at H; have c19b0 : decide (0 < (t281.length : Int)) = true := decide_eq_true c19; have c19b1 : decide (0 < t281.length) = true := decide_eq_true (by omega); clear c19; replace H := Option.bind_eq_some_iff.mp H; obtain ⟨⟨t285, t286, t287, t288⟩, A200, H⟩ := H; replace H : (some (t285, t286, t287, t288)) = some (r1, r2, r3, r4) := H; have A20 := Aside0.mk A200; clear A200; simp only [Option.some.injEq, Prod.mk.injEq] at H; obtain ⟨rfl, rfl, rfl, rfl⟩ := H
    go_enter Tryz.func22, Tryz.ntmps22
    go_wp2_with (first | ((with_reducible refine gate_dst (N := 1) rfl ?_); refine box_event ?hg (N := 1) ?hd (cs := #[.slice A0_0 l0_0.length c0_0, .string a0_1]) (t := 25) ?hr ?_; (case hd => rfl); (case hg => rfl); (case hr => first | (go_simp; done) | (go_simp; rfl)); intro gb279 hg w21 hbox hb; have n0_ := Aside0.mk (below_step bw hb); have n1_ := Aside0.mk (hbox); have n2_ := Aside0.mk ((by rw [hg]; exact (below_size bw) : w.heap.size ≤ gb279)); have n3_ := Aside0.mk ((by rw [hg]; exact (below_size bw) : w.heap.size ≤ gb279)); clear HB; have HB := n0_; have BK279 := n1_; have GW279 := n2_; have GE279 := n3_; clear n0_ n1_ n2_ n3_; clear hb hbox hg) | ((with_reducible refine gate_dst (N := 2) rfl ?_); refine box_event ?hg (N := 2) ?hd (cs := #[.string (⟨#[]⟩ : ByteArray), .string (⟨#[]⟩ : ByteArray), .string (⟨#[]⟩ : ByteArray)]) (t := 53) ?hr ?_; (case hd => rfl); (case hg => rfl); (case hr => first | (go_simp; done) | (go_simp; rfl)); intro gb280 hg w22 hbox hb; have n0_ := Aside0.mk (blk_below (g := gb279) (o := .cells #[.slice A0_0 l0_0.length c0_0, .string a0_1] 25 (0, 0)) bk hb); have n1_ := Aside0.mk (below_step bwS hb); have n2_ := Aside0.mk (hbox); have n3_ := Aside0.mk ((by rw [hg]; exact (below_size bwS) : w.heap.size ≤ gb280)); have n4_ := Aside0.mk ((by rw [hg]; exact (below_size bwS) : w.heap.size ≤ gb280)); have n5_ := Aside0.mk ((by rw [hg]; exact Nat.ne_of_lt (blk_lt (g := gb279) (o := .cells #[.slice A0_0 l0_0.length c0_0, .string a0_1] 25 (0, 0)) bk) : gb279 ≠ gb280)); have n6_ := Aside0.mk ((by rw [hg]; exact Nat.ne_of_gt (blk_lt (g := gb279) (o := .cells #[.slice A0_0 l0_0.length c0_0, .string a0_1] 25 (0, 0)) bk) : gb280 ≠ gb279)); clear BK279; clear HB; have BK279 := n0_; have HB := n1_; have BK280 := n2_; have GW280 := n3_; have GE280 := n4_; have NB279_280 := n5_; have NB280_279 := n6_; clear n0_ n1_ n2_ n3_ n4_ n5_ n6_; clear hb hbox hg; have hnb23 := NB279_280.out; have hnc23 := NB280_279.out; have hcz24_0 : w22.cell? ⟨gb279, 0, none⟩ = some (.slice A0_0 l0_0.length c0_0) := (blk_cell BK279.out 0).trans rfl; have hcz24_1 : w22.cell? ⟨gb279, 1, none⟩ = some (.string a0_1) := (blk_cell BK279.out 1).trans rfl; have hfz24_0 := blk_frozen BK279.out 0; have hfz24_1 := blk_frozen BK279.out 1) | ((with_reducible refine gate_callee (f := 50) rfl ?_); refine goesL_ (some 7) rfl rfl Tryz.func50 (by kernel_rfl) rfl #[.slice A0_0 l0_0.length c0_0, .string (⟨#[70, 114, 111, 109]⟩ : ByteArray)] rfl am ?_; (with_reducible refine (head_All.calls k _ _ l0_0 (⟨#[70, 114, 111, 109]⟩ : ByteArray) t281 _ ?side1 ?side2 A2.out).mono ?_); (case side1 => repeat (first | exact (Kd.C_below HR0_0.out HB.out) | (with_reducible refine Kd.C_alloc ?_ _) | (with_reducible refine Kd.C_drewN ?_ _) | (with_reducible refine Kd.C_drew ?_))); (case side2 => exact HC0_0.out); rintro e w25 ⟨v282, rfl, ho0, hb⟩; refine ⟨_, rfl, ?_⟩; have n0_ := Aside0.mk (Kd.R_lower ho0 (below_size bwS)); have n1_ := Aside0.mk (blk_below (g := gb279) (o := .cells #[.slice A0_0 l0_0.length c0_0, .string a0_1] 25 (0, 0)) bk hb); have n2_ := Aside0.mk (blk_below (g := gb280) (o := .cells #[.string (⟨#[]⟩ : ByteArray), .string (⟨#[]⟩ : ByteArray), .string (⟨#[]⟩ : ByteArray)] 53 (0, 0)) bk hb); have n3_ := Aside0.mk (below_step bwS hb); clear BK279; clear BK280; clear HB; have HO283 := n0_; have BK279 := n1_; have BK280 := n2_; have HB := n3_; clear n0_ n1_ n2_ n3_; (try clear hb); (try clear hb2); (try clear hk); (try clear hi); (try clear ho0); obtain ⟨Ao26, co26, eo26⟩ := Kd.R_slice HO283.out; subst eo26; have p284 : 0 ≤ (0 : Int) := (by omega); have q284 : 0 < (t281.length : Int) := od; obtain ⟨ad284, e284, hx284_0⟩ := Kd.at_string (Kd.R_reads' HO283.out).2.2 0 p284 q284; cases e284; have qi284 : (0 < t281.length) = True := eq_true (by omega); (try rw [show ((0 : Int)).toNat = 0 from rfl] at hx284_0); (try rw [Addr.add_zero'] at hx284_0); replace p284 := eq_true p284; replace q284 := eq_true q284) | ((with_reducible refine gate_callee (f := 51) rfl ?_); refine goesL_ (some 21) rfl rfl Tryz.func51 (by kernel_rfl) rfl #[.string (rdOf ByteArray.empty t281 0)] rfl am ?_; (with_reducible refine (mbx_One.calls (hG := by first | exact hG | exact Glob.below hG (by first | exact HB.out | (repeat (first | (with_reducible first | exact HB.out | apply below_alloc | apply pw_below_drewN | apply below_drew1 | refine below_set ?_ GE279.out | refine below_set ?_ GE280.out) | exact HB.out))) | exact Glob.drawn hG (d0)) (rdOf ByteArray.empty t281 0) t285 t286 t287 t288 _ A20.out).mono ?_); rintro e w27 ⟨rfl, hb⟩; refine ⟨_, rfl, ?_⟩; have n0_ := Aside0.mk (Kd.R_below (ra HO283.out) hb); have n1_ := Aside0.mk (blk_below (g := gb279) (o := .cells #[.slice A0_0 l0_0.length c0_0, .string a0_1] 25 (0, 0)) bk hb); have n2_ := Aside0.mk (blk_below (g := gb280) (o := .cells #[.string (⟨#[]⟩ : ByteArray), .string (⟨#[]⟩ : ByteArray), .string (⟨#[]⟩ : ByteArray)] 53 (0, 0)) bk hb); have n3_ := Aside0.mk (below_step bwS hb); clear HO283; clear BK279; clear BK280; clear HB; have HO283 := n0_; have BK279 := n1_; have BK280 := n2_; have HB := n3_; clear n0_ n1_ n2_ n3_; (try clear hb); (try clear hb2); (try clear hk); (try clear hi); have hcz28_0 : w27.cell? ⟨gb280, 0, none⟩ = some (.string (⟨#[]⟩ : ByteArray)) := (blk_cell BK280.out 0).trans rfl; have hcz28_1 : w27.cell? ⟨gb280, 1, none⟩ = some (.string (⟨#[]⟩ : ByteArray)) := (blk_cell BK280.out 1).trans rfl; have hcz28_2 : w27.cell? ⟨gb280, 2, none⟩ = some (.string (⟨#[]⟩ : ByteArray)) := (blk_cell BK280.out 2).trans rfl; have hfz28_0 := blk_frozen BK280.out 0; have hfz28_1 := blk_frozen BK280.out 1; have hfz28_2 := blk_frozen BK280.out 2))
    refine bodyPost_ret (results_ct rfl _ _ gb280 53 #[.string t285, .string t286, .string t287] (0, 0) _ rfl (by (with_reducible repeat (first | refine blk_drewN ?_ _ | refine blk_drew ?_ | refine blk_alloc ?_ _)); refine blk_put (cs := #[.string t285, .string t286, .string (⟨#[]⟩ : ByteArray)]) ?_ 2 _ rfl; (with_reducible repeat (first | refine blk_drewN ?_ _ | refine blk_drew ?_ | refine blk_alloc ?_ _)); refine blk_put (cs := #[.string t285, .string (⟨#[]⟩ : ByteArray), .string (⟨#[]⟩ : ByteArray)]) ?_ 1 _ rfl; (with_reducible repeat (first | refine blk_drewN ?_ _ | refine blk_drew ?_ | refine blk_alloc ?_ _)); exact blk_put (cs := #[.string (⟨#[]⟩ : ByteArray), .string (⟨#[]⟩ : ByteArray), .string (⟨#[]⟩ : ByteArray)]) bk 0 _ rfl) Tryz.underlying53 rfl (by kernel_rfl)) rfl ?_; exact ⟨ew, bwS⟩
   ·rw [if_neg c19] at H; exact absurd H (by simp)

end Go.Proofs.YtbjbpgmjijeppaaGreatDoor.Fn
set_option linter.unusedVariables false
namespace Go.Proofs.YtbjbpgmjijeppaaGreatDoor.Fn
open Go.RowKit Go.Proofs.YtbjbpgmjijeppaaGreatDoorW.PrintWords

def strings_Cut.f (a0 a1 : ByteArray) : Option (ByteArray × ByteArray × Bool) :=
 if a0.size < 4294967281 then some (Pl.str (Lib.cut a0.data.toList a1.data.toList).1, Pl.str (Lib.cut a0.data.toList a1.data.toList).2.1, (Lib.cut a0.data.toList a1.data.toList).2.2) else none
theorem strings_Cut.calls (a0 a1 r1 r2 : ByteArray) (r3 : Bool) (w : World) (hG : Glob w) (h : strings_Cut.f a0 a1 = some (r1, r2, r3)) :
  Calls Tryz.prog 41 #[.string a0, .string a1] w fun e w' => e = .returned (.tuple #[.string r1, .string r2, .bool r3]) ∧ Below w.heap.size w w' := by
 unfold strings_Cut.f at h
 by_cases hs : a0.size < 4294967281
 ·rw [if_pos hs] at h
  have HR := Option.some.inj h
  injection HR with e1 HR
  injection HR with e2 e3
  obtain ⟨m, hm⟩ := hG.max
  refine (Tryz.strings_Cut a0 a1 m w hs hm).mono ?_
  rintro e w' ⟨rfl, n, rfl⟩
  refine ⟨?_, pw_below_drewN (Below.refl _ w) n⟩
  rw [← e1, ← e2, ← e3]
  rfl
 ·rw [if_neg hs] at h
  exact absurd h (by simp)
end Go.Proofs.YtbjbpgmjijeppaaGreatDoor.Fn
namespace Go.Proofs.YtbjbpgmjijeppaaGreatDoor.Fn
open Go.RowKit Go.Proofs.YtbjbpgmjijeppaaGreatDoorW.PrintWords Go.Proofs.YtbjbpgmjijeppaaGreatDoorW.PrintLast Go.Proofs.YtbjbpgmjijeppaaGreatDoorW.PrintMore
attribute [local go_sem] max2_int min2_int max_two min_two max_three min_three max_four min_four
set_option linter.unusedVariables false
set_option linter.unusedSimpArgs false

def msg_Message_Lines.l0 : Nat → List ByteArray → ByteArray → Option (List ByteArray)
 | 0, _, _ => none
 | k + 1, x3, x4 => if x4.toList = ([] : List UInt8) then (some x3) else ((strings_Cut.f x4 (⟨#[13, 10]⟩ : ByteArray)).bind fun bt139 => (if x3.length < 8796093022208 then (msg_Message_Lines.l0 k (x3 ++ [bt139.1]) bt139.2.1) else (none)))
def msg_Message_Lines.f (k : Nat) (l0_0 : List (S46)) (a0_1 : ByteArray) : Option (List ByteArray) := msg_Message_Lines.l0 k ([] : List ByteArray) a0_1
theorem msg_Message_Lines.mono_l : ∀ k, (∀ y0 y1, LeO (msg_Message_Lines.l0 k y0 y1) (msg_Message_Lines.l0 (k + 1) y0 y1))
 | 0 => fun _ _ r h => by simp [msg_Message_Lines.l0] at h
 | k + 1 => by
  have ih0 := msg_Message_Lines.mono_l k
  ·intro y0 y1; unfold msg_Message_Lines.l0
   repeat' first
   | (with_reducible exact ih0 _ _)
   | (with_reducible exact LeO.refl _)
   | (with_reducible exact LeO.none _)
   | (with_reducible refine LeO.ite ?_ ?_)
   | (with_reducible refine LeO.bind ?_ (fun _ => ?_))
   | exact ih0 _ _
   | exact LeO.none _
   | refine LeO.ite ?_ ?_
   | refine LeO.bind ?_ (fun _ => ?_)
theorem msg_Message_Lines.mono : ∀ a0 a1 k, LeO (msg_Message_Lines.f k a0 a1) (msg_Message_Lines.f (k + 1) a0 a1) := by
 intro a0 a1 k; have ih0 := msg_Message_Lines.mono_l k; unfold msg_Message_Lines.f
 repeat' first
   | (with_reducible exact ih0 _ _)
   | (with_reducible exact LeO.refl _)
   | (with_reducible exact LeO.none _)
   | (with_reducible refine LeO.ite ?_ ?_)
   | (with_reducible refine LeO.bind ?_ (fun _ => ?_))
   | exact ih0 _ _
   | exact LeO.none _
   | refine LeO.ite ?_ ?_
   | refine LeO.bind ?_ (fun _ => ?_)
set_option maxHeartbeats 8000000 in
set_option maxRecDepth 100000 in
theorem msg_Message_Lines.calls (k : Nat) (A0_0 : Option Addr) (c0_0 : Nat) (l0_0 : List (S46)) (a0_1 : ByteArray) (r : List ByteArray) (w : World) (hG : Glob w) (hr0_0 : Kd.C k46 w A0_0 l0_0.length l0_0) (hc0_0 : l0_0.length ≤ c0_0) (h : msg_Message_Lines.f k l0_0 a0_1 = some r) :
  Calls Tryz.prog 16 #[.agg #[.slice A0_0 l0_0.length c0_0, .string a0_1]] w fun e w' => ∃ v0_ : Value, e = .returned (v0_) ∧ Kd.R Kd.string 9 w' w.heap.size (fun _ => True) v0_ r ∧ Below w.heap.size w w' := by
 have hu25 := Tryz.underlying25; have HR0_0 := Aside0.mk hr0_0; have HC0_0 := Aside0.mk hc0_0; clear hr0_0 hc0_0; have HB := Aside0.mk (Below.refl w.heap.size w); have H : (msg_Message_Lines.l0 k ([] : List ByteArray) a0_1) = some r := h; clear h; have H' := Aside0.mk H; clear H
 go_enter Tryz.func16, Tryz.ntmps16
 go_wp2_with (first | ((with_reducible refine gate_dst (N := 1) rfl ?_); refine box_event ?hg (N := 1) ?hd (cs := #[.slice A0_0 l0_0.length c0_0, .string a0_1]) (t := 25) ?hr ?_; (case hd => rfl); (case hg => rfl); (case hr => first | (go_simp; done) | (go_simp; rfl)); intro gb138 hg w2 hbox hb; have n0_ := Aside0.mk (below_step bw hb); have n1_ := Aside0.mk (hbox); have n2_ := Aside0.mk ((by rw [hg]; exact (below_size bw) : w.heap.size ≤ gb138)); have n3_ := Aside0.mk ((by rw [hg]; exact (below_size bw) : w.heap.size ≤ gb138)); clear HB; have HB := n0_; have BK138 := n1_; have GW138 := n2_; have GE138 := n3_; clear n0_ n1_ n2_ n3_; clear hb hbox hg; have hcz3_0 : w2.cell? ⟨gb138, 0, none⟩ = some (.slice A0_0 l0_0.length c0_0) := (blk_cell BK138.out 0).trans rfl; have hcz3_1 : w2.cell? ⟨gb138, 1, none⟩ = some (.string a0_1) := (blk_cell BK138.out 1).trans rfl; have hfz3_0 := blk_frozen BK138.out 0; have hfz3_1 := blk_frozen BK138.out 1))
 go_loopg [3, 4] k (fun kq v3 v4 w' => ∃ (x3_1 : List ByteArray) (x4_1 : ByteArray), v4 = .string x4_1 ∧ Aside0 (msg_Message_Lines.l0 kq x3_1 x4_1 = some r) ∧ Aside0 (kq ≤ k) ∧ Aside0 (Kd.R Kd.string 9 w' w.heap.size (fun _ => True) v3 x3_1) ∧ Aside0 (w'.heap[gb138]? = some (.cells #[(.slice A0_0 l0_0.length c0_0), .string a0_1] 25 (0, 0))) ∧ Aside0 (Below w.heap.size w w'))
 case atStart => exact ⟨(([] : List ByteArray)), (a0_1), cl, H', ⟨Nat.le_refl _⟩, ⟨by first | exact Kd.R_nil _ _ _ _ _ | exact Kd.N_nil _ _ _ _ _ | exact Kd.V_nil _ _ _ _ _ | exact Kd.Q_nil _ _ _ _ _ | exact Kd.S_nil _ _ _ _ _⟩, ⟨bk⟩, ⟨bwS⟩⟩
 case round =>
  clear H'
  try clear c1
  try clear p2
  try clear hcz3_0
  try clear hcz3_1
  try clear hfz3_0
  try clear hfz3_1
  obtain ⟨x3_1, x4_1, rfl, HA, HK1, HO_3, BK138, HB⟩ := hrel; cases gk with
  | zero => exact absurd HA.out (by simp [msg_Message_Lines.l0])
  | succ k1 =>
   have H := HA.out; clear HA; simp only [msg_Message_Lines.l0] at H
   by_cases c4 : x4_1.toList = ([] : List UInt8)
   ·rw [if_pos c4] at H; have c4b0 : (x4_1.toList == ([] : List UInt8)) = true := beq_iff_eq.mpr c4; have c4b1 : (x4_1.toList != ([] : List UInt8)) = false := bne_eq_false_iff_eq.mpr c4; clear c4; obtain rfl := Option.some.inj H
    go_wp2
    go_ret
    exact ⟨_, ew, by (with_reducible repeat (first | apply Kd.R_alloc | apply Kd.R_drewN | apply Kd.R_drew)); exact HO_3.out, bwS⟩
   ·rw [if_neg c4] at H; have c4b0 : (x4_1.toList == ([] : List UInt8)) = false := beq_eq_false_iff_ne.mpr c4; have c4b1 : (x4_1.toList != ([] : List UInt8)) = true := bne_iff_ne.mpr c4; replace H := Option.bind_eq_some_iff.mp H; obtain ⟨⟨t139, t140, t141⟩, A50, H⟩ := H; replace H : (if x3_1.length < 8796093022208 then (msg_Message_Lines.l0 k1 (x3_1 ++ [t139]) t140) else (none)) = some r := H; have A5 := Aside0.mk A50; clear A50
    by_cases c6 : x3_1.length < 8796093022208
    ·rw [if_pos c6] at H; have LMc6 := Aside0.mk c6; clear c6; obtain ⟨y142, hy142⟩ : ∃ y_ : List ByteArray, y_ = (x3_1 ++ [t139]) := ⟨_, rfl⟩
     replace H : (msg_Message_Lines.l0 k1 y142 t140) = some r := by first | (rw [hy142]; with_reducible exact H) | (have H2_ := (Option.bind_some _ _).symm.trans H; rw [hy142]; with_reducible exact H2_) | (have H2_ := (Option.bind_some _ _).symm.trans H; with_reducible exact H2_) | with_reducible exact H | (rw [hy142]; exact H) | exact H
     have Ny142 := Aside0.mk hy142; clear hy142; have H' := Aside0.mk H; clear H
     go_wp2_with (first | ((with_reducible refine gate_callee (f := 41) rfl ?_); refine goesL_ (some 14) rfl rfl Tryz.func41 (by kernel_rfl) rfl #[.string x4_1, .string (⟨#[13, 10]⟩ : ByteArray)] rfl am ?_; (with_reducible refine (strings_Cut.calls (hG := by first | exact hG | exact Glob.below hG (by first | exact HB.out | (repeat (first | (with_reducible first | exact HB.out | apply below_alloc | apply pw_below_drewN | apply below_drew1 | refine below_set ?_ GE138.out) | exact HB.out))) | exact Glob.drawn hG (d0)) x4_1 (⟨#[13, 10]⟩ : ByteArray) t139 t140 t141 _ A5.out).mono ?_); rintro e w7 ⟨rfl, hb⟩; refine ⟨_, rfl, ?_⟩; have n0_ := Aside0.mk (Kd.R_below (ra HO_3.out) hb); have n1_ := Aside0.mk (blk_below (g := gb138) (o := .cells #[.slice A0_0 l0_0.length c0_0, .string a0_1] 25 (0, 0)) bk hb); have n2_ := Aside0.mk (below_step bwS hb); clear HO_3; clear BK138; clear HB; have HO_3 := n0_; have BK138 := n1_; have HB := n2_; clear n0_ n1_ n2_; (try clear hb); (try clear hb2); (try clear hk); (try clear hi)) | ((with_reducible refine gate_builtin (b := .append) (xs := #[.tmp 18, .tmp 20]) rfl ?_); at_builtin; refine Kd.R_append Kd.string (w0 := w) w.heap.size rfl (.tmp 18) (.tmp 20) 39 9 (.string ⟨#[]⟩) 16 rfl Tryz.underlying39 info9 rfl (by decide) (by omega) u3 x3_1 t139 [.string t139] (fun _ => True) (fun _ => False) rfl rfl ?aP (fun _ hk => hk.elim) ?aF ?aO ?aB ?aS ?aL ?_; (case aP => exact rfl); (case aB => exact bwS); (case aF => exact (fun _ _ => trivial)); (case aO => exact (ra HO_3.out)); (case aS => exact (below_size bwS)); (case aL => have := LMc6.out; omega); intro v143 w8 ho hb hg hat; rw [← Ny142.out] at ho; have n0_ := Aside0.mk (blk_grown (g := gb138) (o := .cells #[.slice A0_0 l0_0.length c0_0, .string a0_1] 25 (0, 0)) bk hg (Kd.R_ne HO_3.out BK138.out (by decide))); have n1_ := Aside0.mk (hb); have n2_ := Aside0.mk (ho); clear BK138; clear HB; clear HO_3; have BK138 := n0_; have HB := n1_; have HO144 := n2_; clear n0_ n1_ n2_; clear ho hb hg hat))
     go_roundg k1
     case measure => have := HK1.out; omega
     case rel => exact ⟨(y142), (t140), cl, H', ⟨by have := HK1.out; omega⟩, ⟨by (with_reducible repeat (first | apply Kd.R_alloc | apply Kd.R_drewN | apply Kd.R_drew)); exact HO144.out⟩, ⟨bk⟩, ⟨bwS⟩⟩
    ·rw [if_neg c6] at H; exact absurd H (by simp)

end Go.Proofs.YtbjbpgmjijeppaaGreatDoor.Fn
set_option linter.unusedVariables false
namespace Go.Proofs.YtbjbpgmjijeppaaGreatDoor.Fn
open Go.RowKit Go.Proofs.YtbjbpgmjijeppaaGreatDoorW.PrintWords

/-! strings.IndexRune of a blank text at a sign beyond ASCII: -1. -/
theorem blank_decode0 : Utf8.decode ⟨#[32, 9]⟩ 0 = (32, 1) := by decide
theorem blank_decode1 : Utf8.decode ⟨#[32, 9]⟩ 1 = (9, 1) := by decide
theorem enc_two (r : Nat) (h1 : 128 ≤ r) (h2 : r < 2048) : Utf8.encode (r : Int) = ⟨#[UInt8.ofNat (192 + r / 64), UInt8.ofNat (128 + r % 64)]⟩ := by
 have hv : Utf8.valid (r : Int) = true := by unfold Utf8.valid; simp; omega
 unfold Utf8.encode
 simp only [hv, if_true, Int.toNat_natCast]
 rw [if_neg (by omega), if_pos (by omega)]
theorem enc_more (r : Nat) (h1 : 2048 ≤ r) : 3 ≤ (Utf8.encode (r : Int)).size ∧ (Utf8.encode (r : Int)).size ≤ 4 := by
 unfold Utf8.encode
 by_cases hv : Utf8.valid (r : Int) = true
 ·simp only [hv, if_true, Int.toNat_natCast]
  rw [if_neg (by omega), if_neg (by omega)]
  split
  ·exact ⟨by show 3 ≤ 3; omega, by show 3 ≤ 4; omega⟩
  ·exact ⟨by show 3 ≤ 4; omega, by show 4 ≤ 4; omega⟩
 ·simp only [hv]
  exact ⟨by show 3 ≤ 3; omega, by show 3 ≤ 4; omega⟩

set_option maxHeartbeats 4000000 in
set_option maxRecDepth 100000 in
theorem indexRune_bad (w : World) :
  Calls Tryz.prog 79 #[.string ⟨#[32, 9]⟩, .int .i32 65533] w fun e w' => e = .returned (.int .i64 (-1)) ∧ Below w.heap.size w w' := by
 go_enter Tryz.func79, Tryz.ntmps79
 go_wp2
 go_loopw [] (fun wr => ∃ (pos : Nat), pos ≤ 2 ∧ wr.heap[w.heap.size]? = some (.stringIter ⟨#[32, 9]⟩ pos) ∧ Below w.heap.size w wr) (fun wr => 2 - wr.iterPos w.heap.size)
 case atStart =>
  refine ⟨0, by omega, ?_, (Below.refl _ w).alloc (by simp) _⟩
  have := World.iter_heap w ⟨#[32, 9]⟩ 0
  simpa using this
 case round =>
  obtain ⟨pos, hp2, hit, hbw⟩ := hrel
  have hsz : w.heap.size < wr.heap.size := (Array.getElem?_eq_some_iff.1 hit).1
  rcases (show pos = 0 ∨ pos = 1 ∨ pos = 2 by omega) with rfl | rfl | rfl
  ·have hnx : ∀ ty, (Instr.next (.pointer (some ⟨w.heap.size, 0, none⟩)) true ty).run Tryz.prog wr = _ := fun ty => Lib.run_next_any_at wr w.heap.size ⟨#[32, 9]⟩ 0 ty hit (by decide)
   rw [blank_decode0] at hnx
   have hit2 := Lib.iterAt_heap wr w.heap.size ⟨#[32, 9]⟩ 0 (0 + 1) hit
   have hbw2 := Lib.below_iterAt hbw (k := w.heap.size) (by omega) ⟨#[32, 9]⟩ (0 + 1)
   go_wp2
   go_roundw
   case rel => exact ⟨1, by omega, hit2, hbw2⟩
   case measure => simp only [World.iterPos, hit2, hit]; omega
  ·have hnx : ∀ ty, (Instr.next (.pointer (some ⟨w.heap.size, 0, none⟩)) true ty).run Tryz.prog wr = _ := fun ty => Lib.run_next_any_at wr w.heap.size ⟨#[32, 9]⟩ 1 ty hit (by decide)
   rw [blank_decode1] at hnx
   have hit2 := Lib.iterAt_heap wr w.heap.size ⟨#[32, 9]⟩ 1 (1 + 1) hit
   have hbw2 := Lib.below_iterAt hbw (k := w.heap.size) (by omega) ⟨#[32, 9]⟩ (1 + 1)
   go_wp2
   go_roundw
   case rel => exact ⟨2, by omega, hit2, hbw2⟩
   case measure => simp only [World.iterPos, hit2, hit]; omega
  ·have hnx : ∀ ty, (Instr.next (.pointer (some ⟨w.heap.size, 0, none⟩)) true ty).run Tryz.prog wr = _ := fun ty => Lib.run_next_end_at wr w.heap.size ⟨#[32, 9]⟩ 2 ty hit (by decide)
   go_wp2
   go_ret
   exact ⟨rfl, hbw⟩

set_option maxHeartbeats 4000000 in
set_option maxRecDepth 1000000 in
theorem indexRune_more (r : Nat) (w : World) (h1 : 2048 ≤ r) (h2 : r ≤ 1114111) (h3 : r < 55296 ∨ 57344 ≤ r) (h4 : r ≠ 65533) :
  Calls Tryz.prog 79 #[.string ⟨#[32, 9]⟩, .int .i32 r] w fun e w' => e = .returned (.int .i64 (-1)) ∧ Below w.heap.size w w' := by
 obtain ⟨g1, g2⟩ := enc_more r h1
 have e1 : ((0 : Int) ≤ (r : Int)) = True := eq_true (by omega)
 have e2 : ((r : Int) < 128) = False := eq_false (by omega)
 have e3 : ((r : Int) == 65533) = false := beq_eq_false_iff_ne.2 (by omega)
 have e4 : Lib.validRune (r : Int) = true := by unfold Lib.validRune; simp; omega
 have e5 : decide ((r : Int) < 128) = false := decide_eq_false (by omega)
 have e6 : decide ((0 : Int) ≤ (r : Int)) = true := decide_eq_true (by omega)
 go_enter Tryz.func79, Tryz.ntmps79
 have e7 : (Utf8.encode (r : Int)).size ≤ maxLen := by unfold maxLen; omega
 have e8 : wrap64 (((Utf8.encode (r : Int)).size : Int) - 1) = ((Utf8.encode (r : Int)).size : Int) - 1 := by unfold wrap64; omega
 go_wp2_with (go_at_call 111; refine (Tryz.utf8_ValidRune _ _).mono ?_; rintro e W1 ⟨rfl, rfl⟩; rw [e4])
 go_step3
 go_wp2
 go_loopw [9] (fun v9 wr => v9 = .int .i64 (((Utf8.encode (r : Int)).size : Int) - 1) ∧ wr = W1) (fun v9 wr => 0)
 case atStart => exact ⟨rfl, rfl⟩
 case round =>
  obtain ⟨rfl, rfl⟩ := hrel
  have e9 : decide ((((Utf8.encode (r : Int)).size : Int) - 1) < 2) = false := decide_eq_false (by omega)
  go_wp2
  (try rw [Exit.noGoto_exit])
  go_wp2
  (try rw [Exit.noGoto_ret])
  go_ret
  exact ⟨rfl, Below.refl _ _⟩

set_option maxHeartbeats 4000000 in
set_option maxRecDepth 1000000 in
theorem indexRune_two (r : Nat) (w : World) (h1 : 128 ≤ r) (h2 : r < 2048) :
  Calls Tryz.prog 79 #[.string ⟨#[32, 9]⟩, .int .i32 r] w fun e w' => e = .returned (.int .i64 (-1)) ∧ Below w.heap.size w w' := by
 have HE := hid (enc_two r h1 h2)
 obtain ⟨b, hb⟩ : ∃ b : UInt8, UInt8.ofNat (128 + r % 64) = b := ⟨_, rfl⟩
 obtain ⟨c, hc⟩ : ∃ c : UInt8, UInt8.ofNat (192 + r / 64) = c := ⟨_, rfl⟩
 have hbn : b.toNat = 128 + r % 64 := by rw [← hb]; simp; omega
 rw [hb, hc] at HE
 have e3 : ((r : Int) == 65533) = false := beq_eq_false_iff_ne.2 (by omega)
 have e4 : Lib.validRune (r : Int) = true := by unfold Lib.validRune; simp; omega
 have e5 : decide ((r : Int) < 128) = false := decide_eq_false (by omega)
 have e6 : decide ((0 : Int) ≤ (r : Int)) = true := decide_eq_true (by omega)
 have e10 : (9 != (b.toNat : Int)) = true := by rw [bne_iff_ne]; omega
 have e8 : wrap64 (((⟨#[c, b]⟩ : ByteArray).size : Int) - 1) = 1 := by show wrap64 (((2 : Nat) : Int) - 1) = 1; unfold wrap64; omega
 have e11 : Lib.indexByte [] (b.toNat : Int).toNat.toUInt8 = -1 := rfl
 go_enter Tryz.func79, Tryz.ntmps79
 go_wp2_with (go_at_call 111; refine (Tryz.utf8_ValidRune _ _).mono ?_; rintro e W1 ⟨rfl, rfl⟩; rw [e4])
 go_step3
 go_wp2
 rw [HE.out]
 simp only [e8]
 go_loopw [9] (fun v9 wr => v9 = .int .i64 1 ∧ wr = W1) (fun v9 wr => 0)
 case atStart => exact ⟨rfl, rfl⟩
 case round =>
  obtain ⟨rfl, rfl⟩ := hrel
  go_wp2
  go_step3
  go_wp2
  go_quiet (fail)
  simp only [show ((((⟨#[32, 9]⟩ : ByteArray)[1]'(by decide)).toNat : Int) != (((⟨#[c, b]⟩ : ByteArray)[1]'(by show 1 < 2; decide)).toNat : Int)) = true from e10]
  go_wp2
  have hB3 := pw_below_drewN (Below.refl wr.heap.size wr) nq
  generalize wr.drewN nq = W3 at hB3 ⊢
  have e12 : IntKind.i64.wrap 2 = 2 := by decide
  have e13 : ((2 : Int) ≤ ((⟨#[32, 9]⟩ : ByteArray).size : Int)) = True := eq_true (by decide)
  go_quiet (first | (go_at_call 110; refine Calls.quiet_of_same (Tryz.strings_IndexByte _ _ _)))
  simp only [show ∀ x, Lib.indexByte ByteArray.empty.data.toList x = -1 from fun _ => rfl]
  go_wp2
  rw [Exit.noGoto_ret]
  show Exit.noGoto _ .ret _ _
  repeat (first | rw [Exit.noGoto_ret] | (simp only [Exit.then, Exit.inBlock]))
  go_ret
  exact ⟨rfl, pw_below_drewN hB3 _⟩

theorem indexRune_high (r : Nat) (w : World) (h1 : 128 ≤ r) (ok : r < 55296 ∨ (57344 ≤ r ∧ r ≤ 1114111)) :
  Calls Tryz.prog 79 #[.string ⟨#[32, 9]⟩, .int .i32 r] w fun e w' => e = .returned (.int .i64 (-1)) ∧ Below w.heap.size w w' := by
 by_cases h2 : r < 2048
 ·exact indexRune_two r w h1 h2
 ·by_cases h3 : r = 65533
  ·subst h3
   exact indexRune_bad w
  ·exact indexRune_more r w (by omega) (by omega) (by omega) h3
end Go.Proofs.YtbjbpgmjijeppaaGreatDoor.Fn
set_option linter.unusedVariables false
namespace Go.Proofs.YtbjbpgmjijeppaaGreatDoor.Fn
open Go.RowKit Go.Proofs.YtbjbpgmjijeppaaGreatDoorW.PrintWords

def strings_IndexAny.f (a0 a1 : ByteArray) : Option Int :=
 if a1 = ⟨#[32, 9]⟩ then (if a0.size < 4294967281 then some (Lib.indexAny a0.data.toList [32, 9]) else none) else none
theorem at_list (s : ByteArray) (j : Nat) (h : j < s.size) : s.data.toList[j]? = some (s.get! j) := by
 have h' : j < s.data.size := h
 rw [Array.getElem?_toList, Array.getElem?_eq_getElem h']
 congr 1
 show s.data[j] = s.data[j]!
 rw [getElem!_pos s.data j h']
theorem noAny_run {s : ByteArray} {i : Nat} : ∀ n, i + n ≤ s.size → (∀ j, j < n → 128 ≤ (s.get! (i + j)).toNat) → Lib.NoAny s.data.toList [32, 9] i → Lib.NoAny s.data.toList [32, 9] (i + n)
 | 0, _, _, h => h
 | n + 1, h0, hb, h => by
  have ih := noAny_run n (by omega) (fun j hj => hb j (by omega)) h
  have hx := at_list s (i + n) (by omega)
  refine ih.succ hx ?_
  have := hb n (by omega)
  generalize s.get! (i + n) = c at this
  have h1 : c ≠ 32 := by rintro rfl; revert this; decide
  have h2 : c ≠ 9 := by rintro rfl; revert this; decide
  simp [h1, h2]
theorem high_run (s : ByteArray) (i : Nat) (h : i < s.size) (h1 : 128 ≤ (s.get! i).toNat) : ∀ j, j < (Utf8.decode s i).2 → 128 ≤ (s.get! (i + j)).toNat := by
 intro j hj
 by_cases h0 : j = 0
 ·subst h0; exact h1
 ·rw [Lib.decode_at] at hj
  have g0 : (s.get! i).toNat < 256 := (s.get! i).toNat_lt
  unfold Lib.decodeN at hj
  have hj' : j = 1 ∨ j = 2 ∨ j = 3 := by
   repeat' split at hj
   all_goals (simp only [] at hj; omega)
  rcases hj' with rfl | rfl | rfl
  all_goals
   repeat' split at hj
   all_goals (simp only [] at hj; omega)
theorem sign_ok (s : ByteArray) (i : Nat) : (Utf8.decode s i).1 < 55296 ∨ (57344 ≤ (Utf8.decode s i).1 ∧ (Utf8.decode s i).1 ≤ 1114111) := by
 rw [Lib.decode_at]
 have g0 : (s.get! i).toNat < 256 := (s.get! i).toNat_lt
 unfold Lib.decodeN
 repeat' split
 all_goals (simp only []; omega)
theorem sign_beyond (s : ByteArray) (i : Nat) (h : 128 ≤ (s.get! i).toNat) : 128 ≤ (Utf8.decode s i).1 := by
 rw [Lib.decode_at]
 have g0 : (s.get! i).toNat < 256 := (s.get! i).toNat_lt
 unfold Lib.decodeN
 repeat' split
 all_goals (simp only []; omega)
set_option maxHeartbeats 4000000 in
set_option maxRecDepth 1000000 in
theorem indexAny_short (s : ByteArray) (w : World) (h8 : s.size ≤ 8) :
  Calls Tryz.prog 54 #[.string s, .string ⟨#[32, 9]⟩] w fun e w' => e = .returned (.int .i64 (Lib.indexAny s.data.toList [32, 9])) ∧ Below w.heap.size w w' := by
 have h8z : decide ((8 : Int) < (s.size : Int)) = false := decide_eq_false (by omega)
 go_enter Tryz.func54, Tryz.ntmps54
 go_wp2_with (go_at_call 80; refine (Tryz.strings_shouldUseASCIISet _ _).mono ?_; rintro e w' ⟨rfl, hw⟩; rw [hw, h8z])
 go_loopw [] (fun wr => ∃ (pos : Nat), pos ≤ s.size ∧ wr.heap[w.heap.size]? = some (.stringIter s pos) ∧ Below w.heap.size w wr ∧ Hid (Lib.NoAny s.data.toList [32, 9] pos)) (fun wr => s.size - wr.iterPos w.heap.size)
 case atStart =>
  refine ⟨0, Nat.zero_le _, ?_, (Below.refl _ w).alloc (by simp) _, hid (Lib.NoAny.zero _ _)⟩
  have := World.iter_heap w s 0
  simpa using this
 case round =>
  obtain ⟨pos, hps, hit, hbw, hno⟩ := hrel
  have hsz : w.heap.size < wr.heap.size := (Array.getElem?_eq_some_iff.1 hit).1
  by_cases hp : pos < s.size
  ·have hwd : 1 ≤ (Utf8.decode s pos).2 := Pl.width_pos s pos hp
   have hwe : pos + (Utf8.decode s pos).2 ≤ s.size := Pl.width_end s pos hp
   have hnx : ∀ ty, (Instr.next (.pointer (some ⟨w.heap.size, 0, none⟩)) true ty).run Tryz.prog wr = _ := fun ty => Lib.run_next_any_at wr w.heap.size s pos ty hit hp
   have hit2 := Lib.iterAt_heap wr w.heap.size s pos (pos + (Utf8.decode s pos).2) hit
   have hbw2 := Lib.below_iterAt hbw (k := w.heap.size) (by omega) s (pos + (Utf8.decode s pos).2)
   by_cases h1 : 128 ≤ (s.get! pos).toNat
   ·have HI := hid (indexRune_high (Utf8.decode s pos).1 (wr.iterAt w.heap.size s (pos + (Utf8.decode s pos).2)) (sign_beyond s pos h1) (sign_ok s pos))
    have hno2 := hid (noAny_run _ hwe (high_run s pos hp h1) hno.out)
    clear h1 hno
    go_wp2_with (go_at_call 79; refine HI.out.mono ?_; rintro e W1 ⟨rfl, hb1⟩)
    go_roundw
    case rel =>
     refine ⟨pos + (Utf8.decode s pos).2, hwe, ?_, hbw2.trans (hb1.mono (by rw [Lib.iterAt_size]; omega)), hno2⟩
     rw [hb1.block w.heap.size (by rw [Lib.iterAt_size]; exact hsz)]
     exact hit2
    case measure =>
     have hit3 : W1.heap[w.heap.size]? = some (.stringIter s (pos + (Utf8.decode s pos).2)) := by
      rw [hb1.block w.heap.size (by rw [Lib.iterAt_size]; exact hsz)]
      exact hit2
     simp only [World.iterPos, hit3, hit]
     omega
   ·have hd : Utf8.decode s pos = ((s.get! pos).toNat, 1) := by
     rw [Lib.decode_at]
     unfold Lib.decodeN
     rw [if_pos (by omega)]
    have hx := at_list s pos hp
    have hl : (s.get! pos).toNat < 128 := by omega
    clear h1
    rw [hd] at hnx hit2 hbw2
    generalize s.get! pos = c at *
    have hback : ((c.toNat : Int)).toNat.toUInt8 = c := by simp
    have HR := hid (Tryz.strings_IndexRune_ascii ⟨#[32, 9]⟩ (c.toNat : Int) (wr.iterAt w.heap.size s (pos + 1)) (by omega) (by omega))
    rw [hback] at HR
    by_cases hin : ([32, 9] : List UInt8).contains c = true
    ·have hv : decide ((0 : Int) ≤ Lib.indexByte (⟨#[32, 9]⟩ : ByteArray).data.toList c) = true := by
      rw [← Lib.contains_iff_indexByte]; exact hin
     have hres := hid (Lib.indexAny_hit hno.out hx hin)
     clear hin hno hx
     go_wp2_with (go_at_call 79; refine HR.out.mono ?_; rintro e W1 ⟨rfl, hw⟩; rw [hw])
     go_ret
     exact ⟨by rw [hres.out]; rfl, hbw2⟩
    ·have hin' : ([32, 9] : List UInt8).contains c = false := by simpa using hin
     have hv : decide ((0 : Int) ≤ Lib.indexByte (⟨#[32, 9]⟩ : ByteArray).data.toList c) = false := by
      rw [← Lib.contains_iff_indexByte]; exact hin'
     have hno2 := hid (hno.out.succ hx hin')
     clear hin hin' hno hx
     go_wp2_with (go_at_call 79; refine HR.out.mono ?_; rintro e W1 ⟨rfl, hw⟩; rw [hw])
     go_roundw
     case rel => exact ⟨pos + 1, by omega, hit2, hbw2, hno2⟩
     case measure => simp only [World.iterPos, hit2, hit]; omega
  ·obtain rfl : pos = s.size := by omega
   have hnx : ∀ ty, (Instr.next (.pointer (some ⟨w.heap.size, 0, none⟩)) true ty).run Tryz.prog wr = _ := fun ty => Lib.run_next_end_at wr w.heap.size s s.size ty hit hp
   have hres := hid (Lib.indexAny_none (s := s.data.toList) (chars := [32, 9]) (by rw [Pl.data_length]; exact hno.out))
   go_wp2
   go_ret
   exact ⟨by rw [hres.out]; rfl, hbw⟩

theorem ascii9 : ∀ (j : Nat) b, (⟨#[32, 9]⟩ : ByteArray).data.toList[j]? = some b → b.toNat < 128 := fun _ b hb => of_decide_eq_true (List.all_eq_true.1 (show ([32, 9] : List UInt8).all (fun b => decide (b.toNat < 128)) = true by decide) b (List.mem_of_getElem? hb))
theorem strings_IndexAny.calls (a0 a1 : ByteArray) (r : Int) (w : World) (h : strings_IndexAny.f a0 a1 = some r) :
  Calls Tryz.prog 54 #[.string a0, .string a1] w fun e w' => e = .returned (.int .i64 r) ∧ Below w.heap.size w w' := by
 unfold strings_IndexAny.f at h
 by_cases hc : a1 = ⟨#[32, 9]⟩
 ·rw [if_pos hc] at h
  by_cases hs : a0.size < 4294967281
  ·rw [if_pos hs] at h
   have HR := Option.some.inj h
   subst HR
   subst hc
   by_cases h8 : a0.size ≤ 8
   ·exact indexAny_short a0 w h8
   ·have h116 : (Tryz.prog.info? (Tryz.lays153_ren.t 116)).map (fun i => (i.zero, i.size)) = some (some (.agg (Array.replicate 256 (.bool false))), 256) := by kernel_rfl
    refine (Any.strings_IndexAny_long Tryz.lays153 (zero_of_info h116).1 (zero_of_info h116).2 a0 ⟨#[32, 9]⟩ w (by decide) (by omega) hs (by decide) ascii9).mono fun e w' ⟨h1, h2⟩ => ⟨h1, ?_⟩
    rw [h2]
    exact ((Below.refl _ _).alloc (Nat.le_refl _) _).alloc (by simp) _
  ·rw [if_neg hs] at h
   exact absurd h (by simp)
 ·rw [if_neg hc] at h
  exact absurd h (by simp)
end Go.Proofs.YtbjbpgmjijeppaaGreatDoor.Fn
set_option linter.unusedVariables false
namespace Go.Proofs.YtbjbpgmjijeppaaGreatDoor.Fn
open Go.RowKit Go.Proofs.YtbjbpgmjijeppaaGreatDoorW.PrintWords

def strings_TrimLeft.f (a0 a1 : ByteArray) : Option ByteArray :=
 if a0.size ≤ 140737488355328 then (if a1.size ≤ 1000 then (if a1.data.toList.all (fun b => decide (b.toNat < 128)) = true then some (Pl.str (Lib.trimLeftS a0.data.toList a1.data.toList)) else none) else none) else none
theorem strings_TrimLeft.calls (a0 a1 r : ByteArray) (w : World) (h : strings_TrimLeft.f a0 a1 = some r) :
  Calls Tryz.prog 102 #[.string a0, .string a1] w fun e w' => e = .returned (.string r) ∧ Below w.heap.size w w' := by
 unfold strings_TrimLeft.f at h
 by_cases hs : a0.size ≤ 140737488355328
 ·rw [if_pos hs] at h
  by_cases hc : a1.size ≤ 1000
  ·rw [if_pos hc] at h
   by_cases ha : a1.data.toList.all (fun b => decide (b.toNat < 128)) = true
   ·rw [if_pos ha] at h
    have HR := Option.some.inj h
    subst HR
    exact Any.strings_TrimLeft_laid Tryz.lays161 (by kernel_rfl) a0 a1 w (by omega) (ascii_of_all ha)
   ·rw [if_neg ha] at h; exact absurd h (by simp)
  ·rw [if_neg hc] at h; exact absurd h (by simp)
 ·rw [if_neg hs] at h; exact absurd h (by simp)
end Go.Proofs.YtbjbpgmjijeppaaGreatDoor.Fn
namespace Go.Proofs.YtbjbpgmjijeppaaGreatDoor.Fn
open Go.RowKit Go.Proofs.YtbjbpgmjijeppaaGreatDoorW.PrintWords Go.Proofs.YtbjbpgmjijeppaaGreatDoorW.PrintLast Go.Proofs.YtbjbpgmjijeppaaGreatDoorW.PrintMore
attribute [local go_sem] max2_int min2_int max_two min_two max_three min_three max_four min_four
set_option linter.unusedVariables false
set_option linter.unusedSimpArgs false

def head_piece.f (a0 : ByteArray) : Option (Int) := (strings_TrimLeft.f a0 (⟨#[32, 9]⟩ : ByteArray)).bind fun t134 => (if 0 ≤ (wrap64 ((a0.size : Int) - (t134.size : Int))) then (if (wrap64 ((a0.size : Int) - (t134.size : Int))) ≤ (a0.size : Int) then ((strings_IndexAny.f (a0.extract ((wrap64 ((a0.size : Int) - (t134.size : Int))) : Int).toNat a0.size) (⟨#[32, 9]⟩ : ByteArray)).bind fun t135 => (if t135 ≥ 0 then (some (wrap64 ((wrap64 ((a0.size : Int) - (t134.size : Int))) + t135))) else (some (a0.size : Int)))) else (none)) else (none))
set_option maxHeartbeats 8000000 in
set_option maxRecDepth 100000 in
theorem head_piece.calls (a0 : ByteArray) (r : Int) (w : World) (h : head_piece.f a0 = some r) :
  Calls Tryz.prog 72 #[.string a0] w fun e w' => e = .returned (.int .i64 r) ∧ Below w.heap.size w w' := by
 have HB := Aside0.mk (Below.refl w.heap.size w); have H : ((strings_TrimLeft.f a0 (⟨#[32, 9]⟩ : ByteArray)).bind fun t134 => (if 0 ≤ (wrap64 ((a0.size : Int) - (t134.size : Int))) then (if (wrap64 ((a0.size : Int) - (t134.size : Int))) ≤ (a0.size : Int) then ((strings_IndexAny.f (a0.extract ((wrap64 ((a0.size : Int) - (t134.size : Int))) : Int).toNat a0.size) (⟨#[32, 9]⟩ : ByteArray)).bind fun t135 => (if t135 ≥ 0 then (some (wrap64 ((wrap64 ((a0.size : Int) - (t134.size : Int))) + t135))) else (some (a0.size : Int)))) else (none)) else (none))) = some r := h; clear h; replace H := Option.bind_eq_some_iff.mp H; obtain ⟨t134, A20, H⟩ := H; replace H : (if 0 ≤ (wrap64 ((a0.size : Int) - (t134.size : Int))) then (if (wrap64 ((a0.size : Int) - (t134.size : Int))) ≤ (a0.size : Int) then ((strings_IndexAny.f (a0.extract ((wrap64 ((a0.size : Int) - (t134.size : Int))) : Int).toNat a0.size) (⟨#[32, 9]⟩ : ByteArray)).bind fun t135 => (if t135 ≥ 0 then (some (wrap64 ((wrap64 ((a0.size : Int) - (t134.size : Int))) + t135))) else (some (a0.size : Int)))) else (none)) else (none)) = some r := H; have A2 := Aside0.mk A20; clear A20; obtain ⟨ji3, hji3⟩ : ∃ j_ : Int, (wrap64 ((a0.size : Int) - (t134.size : Int))) = j_ := ⟨_, rfl⟩
 replace H : (if 0 ≤ (ji3) then (if (ji3) ≤ (a0.size : Int) then ((strings_IndexAny.f (a0.extract ((ji3) : Int).toNat a0.size) (⟨#[32, 9]⟩ : ByteArray)).bind fun t135 => (if t135 ≥ 0 then (some (wrap64 ((ji3) + t135))) else (some (a0.size : Int)))) else (none)) else (none)) = some r := by first | (rw [hji3] at H; exact H) | (simp only [hji3] at H ⊢; exact H)
 (try rw [hji3] at A2)
 have hji3w : (IntKind.i64.wrap ((a0.size : Int) - (t134.size : Int))) = ji3 := (i64_w _).trans hji3
 by_cases c4 : 0 ≤ (ji3)
 ·rw [if_pos c4] at H; have c4b0 := eq_true c4; have c4b1 : decide (0 ≤ (ji3)) = true := decide_eq_true c4; clear c4
  by_cases c5 : (ji3) ≤ (a0.size : Int)
  ·rw [if_pos c5] at H; have c5b0 := eq_true c5; have c5b1 : decide ((ji3) ≤ (a0.size : Int)) = true := decide_eq_true c5; clear c5; replace H := Option.bind_eq_some_iff.mp H; obtain ⟨t135, A60, H⟩ := H; replace H : (if t135 ≥ 0 then (some (wrap64 ((ji3) + t135))) else (some (a0.size : Int))) = some r := H; have A6 := Aside0.mk A60; clear A60
   by_cases c7 : t135 ≥ 0
   ·rw [if_pos c7] at H; have c7b0 : decide (0 ≤ t135) = true := decide_eq_true c7; clear c7; obtain rfl := Option.some.inj H
    go_enter Tryz.func72, Tryz.ntmps72
    go_wp2_with (first | ((with_reducible refine gate_callee (f := 102) rfl ?_); refine goesL_ (some 8) rfl rfl Tryz.func102 (by kernel_rfl) rfl #[.string a0, .string (⟨#[32, 9]⟩ : ByteArray)] rfl am ?_; (with_reducible refine (strings_TrimLeft.calls a0 (⟨#[32, 9]⟩ : ByteArray) t134 _ A2.out).mono ?_); rintro e w8 ⟨rfl, hb⟩; refine ⟨_, rfl, ?_⟩; have n0_ := Aside0.mk (below_step bw hb); clear HB; have HB := n0_; clear n0_; (try clear hb); (try clear hb2); (try clear hk); (try clear hi)) | ((with_reducible refine gate_callee (f := 54) rfl ?_); refine goesL_ (some 14) rfl rfl Tryz.func54 (by kernel_rfl) rfl #[.string (a0.extract ((ji3) : Int).toNat a0.size), .string (⟨#[32, 9]⟩ : ByteArray)] rfl (by (try simp only [List.map_toArray, List.map_cons, List.map_nil]); first | done | (simp only [hji3]; rfl) | rfl | (simp only [List.length_drop, List.length_take]; rfl)) ?_; (with_reducible refine (strings_IndexAny.calls (a0.extract ((ji3) : Int).toNat a0.size) (⟨#[32, 9]⟩ : ByteArray) t135 _ A6.out).mono ?_); rintro e w9 ⟨rfl, hb⟩; refine ⟨_, rfl, ?_⟩; have n0_ := Aside0.mk (below_step bw hb); clear HB; have HB := n0_; clear n0_; (try clear hb); (try clear hb2); (try clear hk); (try clear hi)))
    go_ret
    exact ⟨by first | rfl | (simp [errW_none, errW_some] <;> rfl) | (simp only [← hji3]; first | rfl | (simp [errW_none, errW_some] <;> rfl)) | (simp [*, errW_none, errW_some] <;> rfl), bw⟩
   ·rw [if_neg c7] at H; have c7b0 : decide (0 ≤ t135) = false := decide_eq_false c7; clear c7; obtain rfl := Option.some.inj H
    go_enter Tryz.func72, Tryz.ntmps72
    go_wp2_with (first | ((with_reducible refine gate_callee (f := 102) rfl ?_); refine goesL_ (some 8) rfl rfl Tryz.func102 (by kernel_rfl) rfl #[.string a0, .string (⟨#[32, 9]⟩ : ByteArray)] rfl am ?_; (with_reducible refine (strings_TrimLeft.calls a0 (⟨#[32, 9]⟩ : ByteArray) t134 _ A2.out).mono ?_); rintro e w10 ⟨rfl, hb⟩; refine ⟨_, rfl, ?_⟩; have n0_ := Aside0.mk (below_step bw hb); clear HB; have HB := n0_; clear n0_; (try clear hb); (try clear hb2); (try clear hk); (try clear hi)) | ((with_reducible refine gate_callee (f := 54) rfl ?_); refine goesL_ (some 14) rfl rfl Tryz.func54 (by kernel_rfl) rfl #[.string (a0.extract ((ji3) : Int).toNat a0.size), .string (⟨#[32, 9]⟩ : ByteArray)] rfl (by (try simp only [List.map_toArray, List.map_cons, List.map_nil]); first | done | (simp only [hji3]; rfl) | rfl | (simp only [List.length_drop, List.length_take]; rfl)) ?_; (with_reducible refine (strings_IndexAny.calls (a0.extract ((ji3) : Int).toNat a0.size) (⟨#[32, 9]⟩ : ByteArray) t135 _ A6.out).mono ?_); rintro e w11 ⟨rfl, hb⟩; refine ⟨_, rfl, ?_⟩; have n0_ := Aside0.mk (below_step bw hb); clear HB; have HB := n0_; clear n0_; (try clear hb); (try clear hb2); (try clear hk); (try clear hi)))
    go_ret
    exact ⟨by first | rfl | (simp [errW_none, errW_some] <;> rfl) | (simp only [← hji3]; first | rfl | (simp [errW_none, errW_some] <;> rfl)) | (simp [*, errW_none, errW_some] <;> rfl), bw⟩
  ·rw [if_neg c5] at H; exact absurd H (by simp)
 ·rw [if_neg c4] at H; exact absurd H (by simp)

end Go.Proofs.YtbjbpgmjijeppaaGreatDoor.Fn
set_option linter.unusedVariables false
set_option linter.unusedSimpArgs false
namespace Go.Proofs.YtbjbpgmjijeppaaGreatDoor.Pl
open Go.RowKit Go.Proofs.YtbjbpgmjijeppaaGreatDoorW.PrintWords Go.Proofs.YtbjbpgmjijeppaaGreatDoor.Fn

/-! head: how a field is written, in pieces. -/
def wb (c : UInt8) : Bool := ([32, 9] : List UInt8).contains c
def lead (s : Bytes) : Nat := (s.takeWhile wb).length
def word (s : Bytes) : Nat := (s.takeWhile (fun c => !wb c)).length
def pieceL (s : Bytes) : Nat := lead s + word (s.drop (lead s))
theorem lead_le (s : Bytes) : lead s ≤ s.length := (List.takeWhile_prefix wb).length_le
theorem word_le (s : Bytes) : word s ≤ s.length := (List.takeWhile_prefix _).length_le
theorem pieceL_le (s : Bytes) : pieceL s ≤ s.length := by
 unfold pieceL
 have h1 := lead_le s
 have h2 := word_le (s.drop (lead s))
 rw [List.length_drop] at h2
 omega
theorem pieceL_pos (s : Bytes) (h : s ≠ []) : 0 < pieceL s := by
 cases s with
 | nil => exact absurd rfl h
 | cons c r =>
  unfold pieceL lead
  by_cases hc : wb c = true
  ·rw [List.takeWhile_cons_of_pos hc]; simp; omega
  ·rw [List.takeWhile_cons_of_neg hc]
   simp only [List.length_nil, List.drop_zero]
   unfold word
   rw [List.takeWhile_cons_of_pos (by simpa using hc)]; simp
theorem drop_lead : ∀ s : Bytes, s.dropWhile wb = s.drop (lead s)
 | [] => rfl
 | c :: r => by
  unfold lead
  by_cases hc : wb c = true
  ·rw [List.takeWhile_cons_of_pos hc, List.dropWhile_cons_of_pos hc, drop_lead r]; rfl
  ·rw [List.takeWhile_cons_of_neg hc, List.dropWhile_cons_of_neg hc]; rfl
theorem indexAny_word : ∀ s : Bytes, Lib.indexAny s [32, 9] = if word s = s.length then -1 else (word s : Int)
 | [] => by rfl
 | c :: r => by
  have ih := indexAny_word r
  have hl := word_le r
  unfold word at ih hl ⊢
  by_cases hc : wb c = true
  ·have hc' : ([32, 9] : List UInt8).contains c = true := hc
   rw [List.takeWhile_cons_of_neg (by simp [hc])]
   simp [Lib.indexAny]
   intro h1 h2
   exfalso
   simp at hc'
   rcases hc' with rfl | rfl <;> simp at *
  ·have hc' : ([32, 9] : List UInt8).contains c = false := Bool.eq_false_iff.mpr hc
   rw [List.takeWhile_cons_of_pos (by simpa using hc), Lib.indexAny]
   rw [hc', if_neg (by decide), ih]
   simp only [List.length_cons]
   by_cases h : (List.takeWhile (fun c => !wb c) r).length = r.length
   ·rw [if_pos h, if_pos (by decide), if_pos (by omega)]
   ·rw [if_neg h, if_neg (by first | (simp; done) | (simp; omega)), if_neg (by omega)]
    omega
theorem headpiece_is (s : ByteArray) (h : s.size ≤ 4000000000) : head_piece.f s = some (pieceL (bs s) : Int) := by
 have hb := bs_length s
 have h1 := lead_le (bs s)
 have h3 := pieceL_le (bs s)
 have e1 : strings_TrimLeft.f s ⟨#[32, 9]⟩ = some (str ((bs s).drop (lead (bs s)))) := by
  unfold strings_TrimLeft.f
  rw [if_pos (by omega), if_pos (by decide), if_pos (by decide)]
  congr 2
  exact drop_lead _
 have e2 : (str ((bs s).drop (lead (bs s)))).size = s.size - lead (bs s) := by rw [str_size, List.length_drop, hb]
 have e3 : wrap64 ((s.size : Int) - ((s.size - lead (bs s) : Nat) : Int)) = (lead (bs s) : Int) := by
  rw [wrap_id (by omega) (by omega)]
  omega
 unfold head_piece.f
 rw [e1]
 simp only [Option.bind_some]
 rw [e2, e3, if_pos (by omega), if_pos (by omega), Int.toNat_natCast]
 have e4 : strings_IndexAny.f (s.extract (lead (bs s)) s.size) ⟨#[32, 9]⟩ = some (Lib.indexAny ((bs s).drop (lead (bs s))) [32, 9]) := by
  unfold strings_IndexAny.f
  have e5 : bs (s.extract (lead (bs s)) s.size) = (bs s).drop (lead (bs s)) := by
   rw [bs_extract, List.take_of_length_le (by omega)]
  have e6 : (s.extract (lead (bs s)) s.size).size = s.size - lead (bs s) := by rw [← bs_length, e5, List.length_drop, hb]
  rw [if_pos rfl, if_pos (by omega)]
  show some (Lib.indexAny (bs _) _) = _
  rw [e5]
 rw [e4]
 simp only [Option.bind_some]
 rw [indexAny_word]
 have h4 := word_le ((bs s).drop (lead (bs s)))
 rw [List.length_drop] at h4
 unfold pieceL
 by_cases hw : word ((bs s).drop (lead (bs s))) = ((bs s).drop (lead (bs s))).length
 ·rw [if_pos hw, if_neg (by decide)]
  rw [List.length_drop] at hw
  congr 1
  omega
 ·rw [if_neg hw, if_pos (by omega), wrap_id (by omega) (by omega)]
  congr 1
def brk (first : Bool) (pos : Nat) (s : Bytes) : Bool := !first && decide (78 < pos + pieceL s)
def showFrom : Nat → Bool → Nat → Bytes → Bytes
 | 0, _, _, _ => []
 | f + 1, first, pos, s => if s = [] then [] else (if brk first pos s = true then [13, 10] else []) ++ (s.take (pieceL s) ++ showFrom f false ((if brk first pos s = true then 0 else pos) + pieceL s) (s.drop (pieceL s)))
def showL (n v : Bytes) : Bytes := (n ++ [58]) ++ (showFrom (v.length + 1) true (n.length + 1) (if v = [] then [] else 32 :: v) ++ [13, 10])
theorem showFrom_length : ∀ (f : Nat) (first : Bool) (pos : Nat) (s : Bytes), (showFrom f first pos s).length ≤ 3 * s.length
 | 0, _, _, _ => by simp [showFrom]
 | f + 1, first, pos, s => by
  unfold showFrom
  by_cases h : s = []
  ·rw [if_pos h]; simp
  ·have hp := pieceL_pos s h
   have hl := pieceL_le s
   have ih : ∀ q, (showFrom f false q (s.drop (pieceL s))).length ≤ 3 * (s.length - pieceL s) := fun q => by
    have := showFrom_length f false q (s.drop (pieceL s))
    rwa [List.length_drop] at this
   have i1 := ih (0 + pieceL s)
   have i2 := ih (pos + pieceL s)
   rw [if_neg h, List.length_append, List.length_append, List.length_take, Nat.min_eq_left hl]
   split
   ·simp only [List.length_cons, List.length_nil]; omega
   ·simp only [List.length_nil]; omega
theorem showL_length (n v : Bytes) : (showL n v).length ≤ n.length + 3 * v.length + 6 := by
 unfold showL
 have h := showFrom_length (v.length + 1) true (n.length + 1) (if v = [] then [] else 32 :: v)
 have : (if v = [] then ([] : Bytes) else 32 :: v).length ≤ v.length + 1 := by split <;> simp
 simp only [List.length_append, List.length_cons, List.length_nil]
 omega
end Go.Proofs.YtbjbpgmjijeppaaGreatDoor.Pl
set_option linter.unusedVariables false
set_option linter.unusedSimpArgs false
namespace Go.Proofs.YtbjbpgmjijeppaaGreatDoor.Fn
open Go.RowKit Go.Proofs.YtbjbpgmjijeppaaGreatDoorW.PrintWords

def head_Show.f (a0 a1 : ByteArray) : Option ByteArray := if a0.size ≤ 1000000000 then (if a1.size ≤ 1000000000 then some (Pl.str (Pl.showL (Pl.bs a0) (Pl.bs a1))) else none) else none
theorem strCells_bs (s : ByteArray) : Lib.strCells s = Lib.byteCells (Pl.bs s) := rfl

theorem bd_below {B b : Nat} {l : List Value} {W W' : World} (h : isBd B b l W) (hb : Below W.heap.size W W') : isBd B b l W' := by
 rcases h with h | h
 ·refine .inl ?_
  have hl := h.lt
  obtain ⟨h1, v, h2, h3, h4⟩ := h
  exact ⟨h1, v, (hb.block b hl).trans h2, h3.kept (row := none) ⟨hb.os, hb.tape, hb.output, hb.size, fun k hk _ => hb.block k hk⟩ (Classical.em _), h4⟩
 ·refine .inr ?_
  have hl := h.lt
  obtain ⟨h1, v, h2, h3, h4⟩ := h
  exact ⟨h1, v, (hb.block b hl).trans h2, h3.kept (row := none) ⟨hb.os, hb.tape, hb.output, hb.size, fun k hk _ => hb.block k hk⟩ (Classical.em _), h4⟩
theorem bd_lt {B b : Nat} {l : List Value} {W : World} (h : isBd B b l W) : b < W.heap.size := by
 rcases h with h | h <;> exact h.lt
def strLen : Value → Nat | .string s => s.size | _ => 0
theorem toList_ne {s : ByteArray} (h : s.toList = ([] : List UInt8)) : (s.toList == ([] : List UInt8)) = true ∧ (s.toList != ([] : List UInt8)) = false := ⟨beq_iff_eq.mpr h, bne_eq_false_iff_eq.mpr h⟩
theorem toList_ne' {s : ByteArray} (h : ¬ s.toList = ([] : List UInt8)) : (s.toList == ([] : List UInt8)) = false ∧ (s.toList != ([] : List UInt8)) = true := ⟨beq_eq_false_iff_ne.mpr h, bne_iff_ne.mpr h⟩

set_option maxHeartbeats 8000000 in
set_option maxRecDepth 100000 in
theorem head_Show.calls (a0 a1 r : ByteArray) (w : World) (h : head_Show.f a0 a1 = some r) :
  Calls Tryz.prog 48 #[.agg #[.string a0, .string a1]] w fun e w' => e = .returned (.string r) ∧ Below w.heap.size w w' := by
 unfold head_Show.f at h
 by_cases hs : a0.size ≤ 1000000000
 ·rw [if_pos hs] at h
  by_cases hs1 : a1.size ≤ 1000000000
  ·rw [if_pos hs1] at h
   have HR := hid (Option.some.inj h)
   clear h
   have hz1 : (a0 ++ (⟨#[58]⟩ : ByteArray)).size = a0.size + 1 := by rw [ByteArray.size_append]; rfl
   have hz2 : ((⟨#[32]⟩ : ByteArray) ++ a1).size = 1 + a1.size := by rw [ByteArray.size_append]; rfl
   have hB1 : Below w.heap.size w (w.alloc (.cells #[.string a0, .string a1] 46)) := (Below.refl _ w).alloc (Nat.le_refl _) _
   have hF : isBd (w.heap.size + 1) (w.heap.size + 1) [] ((w.alloc (.cells #[.string a0, .string a1] 46)).alloc (.cells #[.pointer none, .slice none 0 0] 103)) := by
    have := Lib.IsBuilderF.of (Lib.fresh_isBuilder 103 5 (w.alloc (.cells #[.string a0, .string a1] 46)))
    rwa [World.size_alloc] at this
   have hbx : (w.alloc (.cells #[.string a0, .string a1] 46)).heap[w.heap.size]? = some (.cells #[.string a0, .string a1] 46 (0, 0)) := World.alloc_heap_new w _
   have HX : Hid (∀ W, Below (w.heap.size + 1) ((w.alloc (.cells #[.string a0, .string a1] 46)).alloc (.cells #[.pointer none, .slice none 0 0] 103)) W → W.heap[w.heap.size]? = some (.cells #[.string a0, .string a1] 46 (0, 0)) ∧ Below w.heap.size w W) := fun W hW => by
    have h0 := ((Below.refl (w.heap.size + 1) (w.alloc (.cells #[.string a0, .string a1] 46))).alloc (by simp) (.cells #[.pointer none, .slice none 0 0] 103)).trans hW
    exact ⟨(h0.block w.heap.size (by omega)).trans hbx, hB1.trans (h0.mono (by omega))⟩
   have HF := hid hF
   clear hF hbx hB1
   have HT : Hid (∃ S0 : ByteArray, S0 = (if a1.toList = [] then ⟨#[]⟩ else ⟨#[32]⟩ ++ a1) ∧ S0.size ≤ a1.size + 1 ∧ Pl.bs S0 = (if Pl.bs a1 = [] then [] else 32 :: Pl.bs a1)) := by
    refine ⟨_, rfl, ?_, ?_⟩
    ·split
     ·exact Nat.zero_le _
     ·rw [hz2]; omega
    ·rw [Pl.toList_bs]
     split
     ·rfl
     ·rw [Pl.bs_app]; rfl
   have hz3 := Pl.bs_length a0
   have hz4 := Pl.bs_length a1
   obtain ⟨S0, hS, hSz, hSb⟩ := HT.out
   have HI : Hid ((Pl.bs a0 ++ [58]) ++ (Pl.showFrom (a1.size + 1) true (a0.size + 1) (Pl.bs S0) ++ [13, 10]) = Pl.showL (Pl.bs a0) (Pl.bs a1)) := by
    show _ = _
    unfold Pl.showL
    rw [hSb, hz3, hz4]
   clear HT hSb
   have hv : (a1.toList = [] ∧ (a1.toList == ([] : List UInt8)) = true ∧ (a1.toList != ([] : List UInt8)) = false ∧ Hid (Value.string ⟨#[]⟩ = .string S0)) ∨ (¬ a1.toList = [] ∧ (a1.toList == ([] : List UInt8)) = false ∧ (a1.toList != ([] : List UInt8)) = true ∧ Hid (Value.string (⟨#[32]⟩ ++ a1) = .string S0)) := by
    by_cases h : a1.toList = []
    ·exact .inl ⟨h, (toList_ne h).1, (toList_ne h).2, hid (by rw [hS, if_pos h])⟩
    ·exact .inr ⟨h, (toList_ne' h).1, (toList_ne' h).2, hid (by rw [hS, if_neg h])⟩
   clear hS
   rcases hv with ⟨hv, hv0, hv1, hS⟩ | ⟨hv, hv0, hv1, hS⟩
   all_goals
    go_enter Tryz.func48, Tryz.ntmps48
    go_wp2_with (go_at_call 66; refine (bd_string (w.heap.size + 1) (w.heap.size + 1) [] _ _ HF.out (by rw [hz1]; simp only [List.length_nil]; omega) (by simp)).mono ?_; rintro e W1 ⟨rfl, h1, b1, k1⟩; obtain ⟨hb1, B1⟩ := HX.out _ b1; have c0 : W1.cell? ⟨w.heap.size, 0, none⟩ = some (.string a0) := (by rw [Lib.cell_of_heap hb1]; rfl); have c1 : W1.cell? ⟨w.heap.size, 1, none⟩ = some (.string a1) := (by rw [Lib.cell_of_heap hb1]; rfl); clear b1 k1 hb1)
    go_loopw [4, 5, 6] (fun v4 v5 v6 wr => ∃ (pos fuel : Nat) (fst : Bool) (s : ByteArray) (acc : List UInt8), v4 = .int .i64 pos ∧ v5 = .string s ∧ v6 = .bool fst ∧ isBd (w.heap.size + 1) (w.heap.size + 1) (Lib.byteCells acc) wr ∧ Below w.heap.size w wr ∧ Hid (acc ++ (Pl.showFrom fuel fst pos (Pl.bs s) ++ [13, 10]) = Pl.showL (Pl.bs a0) (Pl.bs a1)) ∧ s.size ≤ fuel ∧ pos ≤ acc.length ∧ acc.length + 3 * s.size ≤ 4000000100) (fun v4 v5 v6 wr => strLen v5)
    case atStart =>
     refine ⟨a0.size + 1, a1.size + 1, true, S0, Pl.bs a0 ++ [58], rfl, hS.out, rfl, ?_, B1, HI, hSz, by rw [List.length_append, hz3]; exact Nat.le_refl _, by rw [List.length_append, hz3]; simp only [List.length_cons, List.length_nil]; omega⟩
     have := h1.is
     rw [List.nil_append, strCells_bs, Pl.bs_app] at this
     exact this
    case round =>
     obtain ⟨pos, fuel, fst, s, acc, rfl, rfl, rfl, hI, hbw, hacc, hfu, hpa, hsz⟩ := hrel
     have hzs := Pl.bs_length s
     have hwsz := hbw.size
     have hblt := bd_lt hI
     by_cases he : s.toList = []
     ·obtain ⟨e0, e1⟩ := toList_ne he
      have hend : Hid (acc ++ [13, 10] = Pl.showL (Pl.bs a0) (Pl.bs a1)) := by
       have h0 := hacc.out
       rw [show Pl.bs s = [] from by rw [← Pl.toList_bs]; exact he] at h0
       cases fuel with
       | zero => exact h0
       | succ f => rw [Pl.showFrom, if_pos rfl] at h0; exact h0
      clear hacc he
      go_wp2_with (first
       | (go_at_call 66; refine (bd_string (w.heap.size + 1) (w.heap.size + 1) (Lib.byteCells acc) ⟨#[13, 10]⟩ _ hI (by rw [Lib.byteCells_length]; show acc.length + 2 ≤ _; omega) (by omega)).mono ?_; rintro e W2 ⟨rfl, h2, b2, k2⟩; have h3 : isBd (w.heap.size + 1) (w.heap.size + 1) (Lib.byteCells (acc ++ [13, 10])) W2 := (by rw [Lib.byteCells_append]; exact h2.is))
       | (go_at_call 67; refine (Tryz.Builder_String_any_k (w.heap.size + 1) (w.heap.size + 1) (acc ++ [13, 10]) _ h3 (by have := b2.size; omega)).mono ?_; rintro e W3 ⟨rfl, _, b3, _⟩))
      go_ret
      refine ⟨?_, hbw.trans ((b2.mono (by omega)).trans (b3.mono (by omega)))⟩
      rw [← HR.out, ← hend.out]
      rfl
     ·obtain ⟨e0, e1⟩ := toList_ne' he
      have hne : Pl.bs s ≠ [] := by rw [← Pl.toList_bs]; exact he
      have hp1 := Pl.pieceL_pos _ hne
      have hp2 := Pl.pieceL_le (Pl.bs s)
      have hp3 := Pl.headpiece_is s (by omega)
      obtain ⟨f, rfl⟩ : ∃ f, fuel = f + 1 := ⟨fuel - 1, by omega⟩
      have hstep := hacc.out
      rw [Pl.showFrom, if_neg hne] at hstep
      unfold Pl.brk at hstep
      obtain ⟨n, hn⟩ : ∃ n, Pl.pieceL (Pl.bs s) = n := ⟨_, rfl⟩
      rw [hn] at hp1 hp2 hp3 hstep
      have HP := hid hp3
      have hx1 : Pl.bs (s.extract 0 n) = (Pl.bs s).take n := by rw [Pl.bs_extract, List.drop_zero]
      have hx2 : Pl.bs (s.extract n s.size) = (Pl.bs s).drop n := by rw [Pl.bs_extract, List.take_of_length_le (by omega)]
      have hx3 : (s.extract 0 n).size = n := by rw [← Pl.bs_length, hx1, List.length_take]; omega
      have hx4 : (s.extract n s.size).size = s.size - n := by rw [← Pl.bs_length, hx2, List.length_drop]; omega
      have hn1 : ((n : Int) ≤ (s.size : Int)) = True := eq_true (by omega)
      have hn2 : ((0 : Int) ≤ (n : Int)) = True := eq_true (by omega)
      clear hacc he hne hn hp3
      rcases (show fst = true ∨ (fst = false ∧ ¬ 78 < pos + n) ∨ (fst = false ∧ 78 < pos + n) from by cases fst <;> by_cases h : 78 < pos + n <;> simp [h]) with rfl | ⟨rfl, hb⟩ | ⟨rfl, hb⟩
      ·have hnew := hid hstep
       clear hstep
       go_wp2_with (first
        | (go_at_call 72; refine (head_piece.calls s n _ HP.out).mono ?_; rintro e W2 ⟨rfl, b2⟩; have hI2 := bd_below hI b2)
        | (go_at_call 66; refine (bd_string (w.heap.size + 1) (w.heap.size + 1) (Lib.byteCells acc) (s.extract 0 n) _ hI2 (by rw [Lib.byteCells_length, hx3]; omega) (by have := b2.size; omega)).mono ?_; rintro e W3 ⟨rfl, h2, b3, k2⟩))
       go_roundw
       case rel =>
        refine ⟨pos + n, f, false, s.extract n s.size, acc ++ (Pl.bs s).take n, by go_num, rfl, rfl, ?_, hbw.trans ((b2.mono (by omega)).trans (b3.mono (by omega))), ?_, by omega, by rw [List.length_append, List.length_take]; omega, by rw [List.length_append, List.length_take, hx4]; omega⟩
        ·rw [Lib.byteCells_append, ← hx1]; exact h2.is
        ·show _ = _
         rw [hx2, ← hnew.out]
         simp []
       case measure => simp only [strLen, hx4]; omega
      ·have d0 : decide ((78 : Int) < (pos : Int) + (n : Int)) = false := decide_eq_false (by omega)
       have hnew := hid hstep
       clear hstep
       go_wp2_with (first
        | (go_at_call 72; refine (head_piece.calls s n _ HP.out).mono ?_; rintro e W2 ⟨rfl, b2⟩; have hI2 := bd_below hI b2)
        | (go_at_call 66; refine (bd_string (w.heap.size + 1) (w.heap.size + 1) (Lib.byteCells acc) (s.extract 0 n) _ hI2 (by rw [Lib.byteCells_length, hx3]; omega) (by have := b2.size; omega)).mono ?_; rintro e W3 ⟨rfl, h2, b3, k2⟩))
       go_roundw
       case rel =>
        refine ⟨pos + n, f, false, s.extract n s.size, acc ++ (Pl.bs s).take n, by go_num, rfl, rfl, ?_, hbw.trans ((b2.mono (by omega)).trans (b3.mono (by omega))), ?_, by omega, by rw [List.length_append, List.length_take]; omega, by rw [List.length_append, List.length_take, hx4]; omega⟩
        ·rw [Lib.byteCells_append, ← hx1]; exact h2.is
        ·show _ = _
         rw [hx2, ← hnew.out]
         simp [hb]
       case measure => simp only [strLen, hx4]; omega
      ·have d0 : decide ((78 : Int) < (pos : Int) + (n : Int)) = true := decide_eq_true (by omega)
       have hnew := hid hstep
       clear hstep
       go_wp2_with (first
        | (go_at_call 72; refine (head_piece.calls s n _ HP.out).mono ?_; rintro e W2 ⟨rfl, b2⟩; have hI2 := bd_below hI b2)
        | (go_at_call 66; refine (bd_string (w.heap.size + 1) (w.heap.size + 1) (Lib.byteCells (acc ++ [13, 10])) (s.extract 0 n) _ h3 (by rw [Lib.byteCells_length, hx3, List.length_append]; show acc.length + 2 + n ≤ _; omega) (by have := b2.size; have := b3.size; omega)).mono ?_; rintro e W4 ⟨rfl, h4, b4, k4⟩)
        | (go_at_call 66; refine (bd_string (w.heap.size + 1) (w.heap.size + 1) (Lib.byteCells acc) ⟨#[13, 10]⟩ _ hI2 (by rw [Lib.byteCells_length]; show acc.length + 2 ≤ _; omega) (by have := b2.size; omega)).mono ?_; rintro e W3 ⟨rfl, h2, b3, k2⟩; have h3 : isBd (w.heap.size + 1) (w.heap.size + 1) (Lib.byteCells (acc ++ [13, 10])) W3 := (by rw [Lib.byteCells_append]; exact h2.is)))
       go_roundw
       case rel =>
        refine ⟨n, f, false, s.extract n s.size, acc ++ [13, 10] ++ (Pl.bs s).take n, by go_num, rfl, rfl, ?_, hbw.trans ((b2.mono (by omega)).trans ((b3.mono (by omega)).trans (b4.mono (by omega)))), ?_, by omega, by rw [List.length_append, List.length_take]; omega, ?_⟩
        ·rw [Lib.byteCells_append, ← hx1]; exact h4.is
        ·show _ = _
         rw [hx2, ← hnew.out]
         simp [hb]
        ·rw [List.length_append, List.length_append, List.length_take, hx4]
         simp only [List.length_cons, List.length_nil]
         omega
       case measure => simp only [strLen, hx4]; omega
  ·rw [if_neg hs1] at h; exact absurd h (by simp)
 ·rw [if_neg hs] at h; exact absurd h (by simp)
end Go.Proofs.YtbjbpgmjijeppaaGreatDoor.Fn
set_option linter.unusedVariables false
set_option linter.unusedSimpArgs false
namespace Go.Proofs.YtbjbpgmjijeppaaGreatDoor.Pl
def printL (l : List (Bytes × Bytes)) : Bytes := l.flatMap fun f => showL f.1 f.2
end Go.Proofs.YtbjbpgmjijeppaaGreatDoor.Pl
namespace Go.Proofs.YtbjbpgmjijeppaaGreatDoor.Fn
open Go.RowKit Go.Proofs.YtbjbpgmjijeppaaGreatDoorW.PrintWords

def ofP (x : S46) : List UInt8 × List UInt8 := (Pl.bs x.f0, Pl.bs x.f1)
def okP (x : S46) : Bool := decide (x.f0.size ≤ 1000000) && decide (x.f1.size ≤ 1000000)
def head_Print.f (l0 : List (S46)) : Option ByteArray :=
 if l0.length ≤ 1000000 then (if l0.all okP = true then some (Pl.str (Pl.printL (l0.map ofP))) else none) else none
theorem print_len : ∀ (l : List (S46)), l.all okP = true → (Pl.printL (l.map ofP)).length ≤ 5000000 * l.length
 | [], _ => by simp [Pl.printL]
 | x :: l, h => by
  rw [List.all_cons, Bool.and_eq_true] at h
  have ih := print_len l h.2
  have h1 := h.1
  unfold okP at h1
  rw [Bool.and_eq_true, decide_eq_true_iff, decide_eq_true_iff] at h1
  have h2 := Pl.showL_length (Pl.bs x.f0) (Pl.bs x.f1)
  rw [Pl.bs_length, Pl.bs_length] at h2
  have e : Pl.printL ((x :: l).map ofP) = Pl.showL (Pl.bs x.f0) (Pl.bs x.f1) ++ Pl.printL (l.map ofP) := rfl
  rw [e, List.length_append, List.length_cons]
  omega
theorem print_take (l : List (S46)) (i : Nat) (h : i < l.length) : Pl.printL ((l.map ofP).take (i + 1)) = Pl.printL ((l.map ofP).take i) ++ Pl.showL (Pl.bs l[i].f0) (Pl.bs l[i].f1) := by
 rw [List.take_succ_eq_append_getElem (by rw [List.length_map]; exact h)]
 unfold Pl.printL
 rw [List.flatMap_append]
 simp [ofP]

set_option maxHeartbeats 8000000 in
set_option maxRecDepth 100000 in
theorem head_Print.calls (A0 : Option Addr) (c0 : Nat) (l0 : List (S46)) (r : ByteArray) (w : World) (hr0 : Kd.C k46 w A0 l0.length l0) (hc0 : l0.length ≤ c0) (h : head_Print.f l0 = some r) :
  Calls Tryz.prog 39 #[.slice A0 l0.length c0] w fun e w' => e = .returned (.string r) ∧ Below w.heap.size w w' := by
 unfold head_Print.f at h
 by_cases hs : l0.length ≤ 1000000
 ·rw [if_pos hs] at h
  by_cases hs1 : l0.all okP = true
  ·rw [if_pos hs1] at h
   have HR := hid (Option.some.inj h)
   have HO := hid hs1
   clear h hs1
   have HC := hid hr0
   clear hr0
   go_enter Tryz.func39, Tryz.ntmps39
   go_wp2
   go_loopw [8] (fun v8 wr => ∃ i : Nat, i ≤ l0.length ∧ v8 = .int .i64 i ∧ isBd w.heap.size w.heap.size (Lib.byteCells (Pl.printL ((l0.map ofP).take i))) wr ∧ Below w.heap.size w wr) (fun v8 _ => l0.length - (intOf v8).toNat)
   case atStart => exact ⟨0, Nat.zero_le _, rfl, by rw [List.take_zero]; exact Lib.IsBuilderF.of (Lib.fresh_isBuilder _ _ w), (Below.refl _ w).alloc (Nat.le_refl _) _⟩
   case round =>
    obtain ⟨i, hi, rfl, hI, hbw⟩ := hrel
    have hwsz := hbw.size
    by_cases hlt : i < l0.length
    ·have hall := List.all_eq_true.1 HO.out (l0[i]'hlt) (List.getElem_mem hlt)
     unfold okP at hall
     rw [Bool.and_eq_true, decide_eq_true_iff, decide_eq_true_iff] at hall
     obtain ⟨hl1, hl2⟩ := hall
     have hlen := print_len (l0.take i) (List.all_eq_true.2 fun x hx => List.all_eq_true.1 HO.out x (List.mem_of_mem_take hx))
     rw [List.length_take, List.map_take] at hlen
     have hsl := Pl.showL_length (Pl.bs (l0[i]'hlt).f0) (Pl.bs (l0[i]'hlt).f1)
     rw [Pl.bs_length, Pl.bs_length] at hsl
     have hpt := hid (print_take l0 i hlt)
     have hsf : head_Show.f (l0[i]'hlt).f0 (l0[i]'hlt).f1 = some (Pl.str (Pl.showL (Pl.bs (l0[i]'hlt).f0) (Pl.bs (l0[i]'hlt).f1))) := by
      unfold head_Show.f
      rw [if_pos (by omega), if_pos (by omega)]
     obtain ⟨ad, e0, hx0, hx1⟩ := at_T46 HC.out (i : Int) (by omega) (by omega)
     subst e0
     have hrd : rd_T46 l0 (i : Int) = l0[i]'hlt := by
      unfold rd_T46
      rw [Int.toNat_natCast, List.getD_eq_getElem?_getD, List.getElem?_eq_getElem hlt]; rfl
     rw [hrd] at hx0 hx1
     simp only [Int.toNat_natCast] at hx0 hx1
     replace hx0 := (hbw.cell (World.block_lt_of_cell? w _ hx0)).trans hx0
     replace hx1 := (hbw.cell (World.block_lt_of_cell? w _ hx1)).trans hx1
     generalize l0[i]'hlt = x at *
     have hsh := hid hsf
     have c1 : ((0 : Int) ≤ (i : Int)) = True := eq_true (by omega)
     have c2 : ((i : Int) < (l0.length : Int)) = True := eq_true (by omega)
     have c3 : decide ((i : Int) < (l0.length : Int)) = true := decide_eq_true (by omega)
     clear hsf hrd
     have hIX : isBd w.heap.size w.heap.size (Lib.byteCells (Pl.printL ((l0.map ofP).take i))) (wr.alloc (.cells #[.string x.f0, .string x.f1] 46)) := Lib.IsBuilderF.alloc hI _
     have hzs : (Pl.str (Pl.showL (Pl.bs x.f0) (Pl.bs x.f1))).size ≤ 4000006 := by rw [Pl.str_size]; omega
     go_wp2_with (first
      | (go_at_call 48; refine (head_Show.calls x.f0 x.f1 _ _ hsh.out).mono ?_; rintro e W1 ⟨rfl, b1⟩; have hI1 := bd_below hIX b1)
      | (go_at_call 66; refine (bd_string w.heap.size w.heap.size _ (Pl.str (Pl.showL (Pl.bs x.f0) (Pl.bs x.f1))) _ hI1 (by rw [Lib.byteCells_length]; omega) (by have := b1.size; simp only [World.size_alloc] at this; omega)).mono ?_; rintro e W2 ⟨rfl, h2, b2, k2⟩))
     go_roundw
     case rel =>
      refine ⟨i + 1, by omega, by go_num, ?_, hbw.trans ((((Below.refl wr.heap.size wr).alloc (Nat.le_refl _) _).mono (by omega)).trans ((b1.mono (by simp only [World.size_alloc]; omega)).trans b2))⟩
      rw [hpt.out, Lib.byteCells_append]
      exact h2.is
     case measure => simp [intOf]; omega
    ·have c3 : decide ((i : Int) < (l0.length : Int)) = false := decide_eq_false (by omega)
     have hend := hid (show ((l0.map ofP).take i) = l0.map ofP from List.take_of_length_le (by rw [List.length_map]; omega))
     go_wp2_with (go_at_call 67; refine (Tryz.Builder_String_any_k w.heap.size w.heap.size _ _ hI hwsz).mono ?_; rintro e W1 ⟨rfl, _, b1, _⟩)
     go_ret
     refine ⟨?_, hbw.trans b1⟩
     rw [← HR.out, hend.out]
     rfl
  ·rw [if_neg hs1] at h; exact absurd h (by simp)
 ·rw [if_neg hs] at h; exact absurd h (by simp)
end Go.Proofs.YtbjbpgmjijeppaaGreatDoor.Fn
namespace Go.Proofs.YtbjbpgmjijeppaaGreatDoor.Fn
open Go.RowKit Go.Proofs.YtbjbpgmjijeppaaGreatDoorW.PrintWords Go.Proofs.YtbjbpgmjijeppaaGreatDoorW.PrintLast Go.Proofs.YtbjbpgmjijeppaaGreatDoorW.PrintMore
attribute [local go_sem] max2_int min2_int max_two min_two max_three min_three max_four min_four
set_option linter.unusedVariables false
set_option linter.unusedSimpArgs false

def msg_Message_Text.f (l0_0 : List (S46)) (a0_1 : ByteArray) : Option (ByteArray) := (head_Print.f l0_0).bind fun t137 => (if t137.size + 2 ≤ 9223372036854775807 then (if (t137 ++ (⟨#[13, 10]⟩ : ByteArray)).size + a0_1.size ≤ 9223372036854775807 then (some ((t137 ++ (⟨#[13, 10]⟩ : ByteArray)) ++ a0_1)) else (none)) else (none))
def msg_Message_Text.T1 : Bool × List (List Nat × List Nat) := (true, [([], []), ([0], [0]), ([1], [1]), ([2], [2]), ([], []), ([4], [4]), ([3, 5], [3, 5]), ([6, 2, 0, 1, 2, 3, 4, 5, 6], [6])])
def msg_Message_Text.B1 : List Nat := [0, 1, 3, 7, 0, 16, 63, 127]
theorem msg_Message_Text.tab1 : rtab .any (opsOf Tryz.f13 1) = msg_Message_Text.T1 := by kernel_rfl
theorem msg_Message_Text.bits1 : waitsOk msg_Message_Text.T1.2 msg_Message_Text.B1 = true := by kernel_rfl
set_option maxHeartbeats 8000000 in
set_option maxRecDepth 100000 in
theorem msg_Message_Text.calls (A0_0 : Option Addr) (c0_0 : Nat) (l0_0 : List (S46)) (a0_1 : ByteArray) (r : ByteArray) (w : World) (hr0_0 : Kd.C k46 w A0_0 l0_0.length l0_0) (hc0_0 : l0_0.length ≤ c0_0) (h : msg_Message_Text.f l0_0 a0_1 = some r) :
  Calls Tryz.prog 13 #[.agg #[.slice A0_0 l0_0.length c0_0, .string a0_1]] w fun e w' => e = .returned (.string r) ∧ Below w.heap.size w w' := by
 have hu25 := Tryz.underlying25; have HR0_0 := Aside0.mk hr0_0; have HC0_0 := Aside0.mk hc0_0; clear hr0_0 hc0_0; have HB := Aside0.mk (Below.refl w.heap.size w); have H : ((head_Print.f l0_0).bind fun t137 => (if t137.size + 2 ≤ 9223372036854775807 then (if (t137 ++ (⟨#[13, 10]⟩ : ByteArray)).size + a0_1.size ≤ 9223372036854775807 then (some ((t137 ++ (⟨#[13, 10]⟩ : ByteArray)) ++ a0_1)) else (none)) else (none))) = some r := h; clear h; replace H := Option.bind_eq_some_iff.mp H; obtain ⟨t137, A20, H⟩ := H; replace H : (if t137.size + 2 ≤ 9223372036854775807 then (if (t137 ++ (⟨#[13, 10]⟩ : ByteArray)).size + a0_1.size ≤ 9223372036854775807 then (some ((t137 ++ (⟨#[13, 10]⟩ : ByteArray)) ++ a0_1)) else (none)) else (none)) = some r := H; have A2 := Aside0.mk A20; clear A20
 by_cases c3 : t137.size + 2 ≤ 9223372036854775807
 ·rw [if_pos c3] at H; have c3b0 := eq_true c3; have c3b1 : decide (t137.size + 2 ≤ 9223372036854775807) = true := decide_eq_true c3
  try have c3b2 : (9223372036854775807 < t137.size + 2) = False := eq_false (Nat.not_lt.2 c3)
  by_cases c4 : (t137 ++ (⟨#[13, 10]⟩ : ByteArray)).size + a0_1.size ≤ 9223372036854775807
  ·rw [if_pos c4] at H; have c4b0 := eq_true c4; have c4b1 : decide ((t137 ++ (⟨#[13, 10]⟩ : ByteArray)).size + a0_1.size ≤ 9223372036854775807) = true := decide_eq_true c4
   try have c4b2 : (9223372036854775807 < (t137 ++ (⟨#[13, 10]⟩ : ByteArray)).size + a0_1.size) = False := eq_false (Nat.not_lt.2 c4)
   try (have c4b3 := c4; simp only [ByteArray.size_append, size_lit, ByteArray.size_extract, List.size_toArray, List.length_cons, List.length_nil, Nat.zero_add, Nat.reduceAdd] at c4b3; have c4b4 := eq_false (Nat.not_lt.2 c4b3))
   obtain rfl := Option.some.inj H
   go_enter Tryz.func13, Tryz.ntmps13
   try go_wp2_with (first | ((with_reducible refine gate_dst (N := 1) rfl ?_); refine box_event ?hg (N := 1) ?hd (cs := #[.slice A0_0 l0_0.length c0_0, .string a0_1]) (t := 25) ?hr ?_; (case hd => rfl); (case hg => rfl); (case hr => first | (go_simp; done) | (go_simp; rfl)); intro gb136 hg w5 hbox hb; have n0_ := Aside0.mk (below_step bw hb); have n1_ := Aside0.mk (hbox); have n2_ := Aside0.mk ((by rw [hg]; exact (below_size bw) : w.heap.size ≤ gb136)); have n3_ := Aside0.mk ((by rw [hg]; exact (below_size bw) : w.heap.size ≤ gb136)); clear HB; have HB := n0_; have BK136 := n1_; have GW136 := n2_; have GE136 := n3_; clear n0_ n1_ n2_ n3_; clear hb hbox hg))
   have n0_ := Aside0.mk (blk_drew BK136.out); have n1_ := Aside0.mk (below_drew1 HB.out); clear BK136 HB; have BK136 := n0_; have HB := n1_; clear n0_ n1_; refine start_ (n := 8) (S := fun w' => w'.cell? ⟨gb136, 0, none⟩ = some (.slice A0_0 l0_0.length c0_0) ∧ w'.cell? ⟨gb136, 1, none⟩ = some (.string a0_1)) (ds := []) #[false, false, false, false, false, false, false, false] (by kernel_rfl) rfl rfl ⟨(blk_cell BK136.out 0).trans rfl, (blk_cell BK136.out 1).trans rfl⟩ (fun hHeld => ?_); refine with_tabW msg_Message_Text.tab1 msg_Message_Text.bits1 (fun HT_ HW_ => ?_)
   generalize w5.drew = w6 at BK136 HB hHeld ⊢
   refine pure_ (i := 0) (N := some 3) (v := ?_) (a' := ?_) (bitsL 8 1) rfl rfl (any_of HT_.out (by kernel_rfl)) (fun _ _ _ h => h) (Or.inl ⟨by rfl, ?_⟩) ?_ ?_; rotate_left
   ·intro w'; go_simp; with_reducible rfl
   rotate_left
   ·simp only [Act.put, List.setIfInBounds_toArray, List.set_cons_zero, List.set_cons_succ, i64_w, i32_w]; rfl
   refine pure_ (i := 4) (N := some 7) (v := ?_) (a' := ?_) (bitsL 8 17) rfl rfl (any_of HT_.out (by kernel_rfl)) (fun _ _ _ h => h) (Or.inl ⟨by rfl, ?_⟩) ?_ ?_; rotate_left
   ·intro w'; go_simp; with_reducible rfl
   rotate_left
   ·simp only [Act.put, List.setIfInBounds_toArray, List.set_cons_zero, List.set_cons_succ, i64_w, i32_w]; rfl
   refine take_ (i := 1) (N := some 4) (v := ?_) (a' := ?_) (bitsL 8 19) rfl rfl (take_ofW HT_.out HW_.out (by kernel_rfl)) (fun _ _ _ h => h) (Or.inl ⟨by rfl, ?_⟩) hHeld ?_ ?_; rotate_left
   ·rintro w' ⟨s0, s1⟩; go_simp; with_reducible rfl
   rotate_left
   ·simp only [Act.put, List.setIfInBounds_toArray, List.set_cons_zero, List.set_cons_succ, i64_w, i32_w]; rfl
   refine take_ (i := 5) (N := some 8) (v := ?_) (a' := ?_) (bitsL 8 51) rfl rfl (take_ofW HT_.out HW_.out (by kernel_rfl)) (fun _ _ _ h => h) (Or.inl ⟨by rfl, ?_⟩) hHeld ?_ ?_; rotate_left
   ·rintro w' ⟨s0, s1⟩; go_simp; with_reducible rfl
   rotate_left
   ·simp only [Act.put, List.setIfInBounds_toArray, List.set_cons_zero, List.set_cons_succ, i64_w, i32_w]; rfl
   refine one_ (i := 2) (N := some 5) (bitsL 8 55) rfl rfl (one_of HT_.out (by kernel_rfl)) (by decide) (fun K hK => ?_); refine goes_ Tryz.func39 (by kernel_rfl) rfl #[.slice A0_0 l0_0.length c0_0] (by rfl) rfl rfl am ?_; with_reducible refine (head_Print.calls _ _ l0_0 t137 _ ?side1 ?side2 A2.out).mono ?_
   (case side1 => repeat (first | exact (Kd.C_below HR0_0.out HB.out) | (with_reducible refine Kd.C_alloc ?_ _) | (with_reducible refine Kd.C_drewN ?_ _) | (with_reducible refine Kd.C_drew ?_)))
   (case side2 => exact HC0_0.out)
   rintro e w7 ⟨rfl, hb⟩; refine ⟨_, rfl, ?_⟩; have n0_ := Aside0.mk (blk_below (g := gb136) (o := .cells #[.slice A0_0 l0_0.length c0_0, .string a0_1] 25 (0, 0)) bk hb); have n1_ := Aside0.mk (below_step bwS hb); clear BK136 HB; have BK136 := n0_; have HB := n1_; clear n0_ n1_
   (try clear hb)
   (try clear hb2)
   (try clear hk)
   (try clear hi)
   refine hK.out _ _ ⟨(blk_cell BK136.out 0).trans rfl, (blk_cell BK136.out 1).trans rfl⟩ (fun hHeld => ?_); clear hK K; refine norm_ (a' := ?_) ?_ ?_; rotate_left
   ·show Act.put _ (some 5) _ = _
    simp only [Act.put, List.setIfInBounds_toArray, List.set_cons_zero, List.set_cons_succ, i64_w, i32_w]; rfl
   refine pure_ (i := 3) (N := some 6) (v := ?_) (a' := ?_) (bitsL 8 63) rfl rfl (any_of HT_.out (by kernel_rfl)) (fun _ _ _ h => h) (Or.inl ⟨by rfl, ?_⟩) ?_ ?_; rotate_left
   ·intro w'; go_simp; with_reducible rfl
   rotate_left
   ·simp only [Act.put, List.setIfInBounds_toArray, List.set_cons_zero, List.set_cons_succ, i64_w, i32_w]; rfl
   refine pure_ (i := 6) (N := some 9) (v := ?_) (a' := ?_) (bitsL 8 127) rfl rfl (any_of HT_.out (by kernel_rfl)) (fun _ _ _ h => h) (Or.inl ⟨by rfl, ?_⟩) ?_ ?_; rotate_left
   ·intro w'; go_simp; with_reducible rfl
   rotate_left
   ·simp only [Act.put, List.setIfInBounds_toArray, List.set_cons_zero, List.set_cons_succ, i64_w, i32_w]; rfl
   refine pure_ (i := 7) (N := some 2) (v := ?_) (a' := ?_) (bitsL 8 255) rfl rfl (any_of HT_.out (by kernel_rfl)) (fun _ _ _ h => h) (Or.inl ⟨by rfl, ?_⟩) ?_ ?_; rotate_left
   ·intro w'; go_simp; with_reducible rfl
   rotate_left
   ·simp only [Act.put, List.setIfInBounds_toArray, List.set_cons_zero, List.set_cons_succ, i64_w, i32_w]; rfl
   refine done_ (done_of HT_.out (by kernel_rfl)) ?_
   try go_wp2
   go_ret
   exact ⟨ew, bwS⟩
  ·rw [if_neg c4] at H; exact absurd H (by simp)
 ·rw [if_neg c3] at H; exact absurd H (by simp)

end Go.Proofs.YtbjbpgmjijeppaaGreatDoor.Fn
namespace Go.Proofs.YtbjbpgmjijeppaaGreatDoor.Fn
open Go.RowKit Go.Proofs.YtbjbpgmjijeppaaGreatDoorW.PrintWords Go.Proofs.YtbjbpgmjijeppaaGreatDoorW.PrintLast Go.Proofs.YtbjbpgmjijeppaaGreatDoorW.PrintMore
attribute [local go_sem] max2_int min2_int max_two min_two max_three min_three max_four min_four
set_option linter.unusedVariables false
set_option linter.unusedSimpArgs false

def head_named.l0 : Nat → ByteArray → Int → Int → Option (Bool)
 | 0, _, _, _ => none
 | k + 1, x0, x6, x7 => if x7 < x6 then (if 0 ≤ x7 then (if x7 < (x0.size : Int) then (if (bt x0 x7) ≤ 32 then (some false) else (if (bt x0 x7) > 126 then (some false) else (if (bt x0 x7) = 58 then (some false) else (head_named.l0 k x0 x6 (wrap64 (x7 + 1)))))) else (none)) else (none)) else (if x0.toList = ([] : List UInt8) then (some false) else (some (decide ((x0.size : Int) ≤ 76))))
def head_named.f (k : Nat) (a0 : ByteArray) : Option (Bool) := head_named.l0 k a0 (a0.size : Int) 0
theorem head_named.mono_l : ∀ k, (∀ y0 y1 y2, LeO (head_named.l0 k y0 y1 y2) (head_named.l0 (k + 1) y0 y1 y2))
 | 0 => fun _ _ _ r h => by simp [head_named.l0] at h
 | k + 1 => by
  have ih0 := head_named.mono_l k
  ·intro y0 y1 y2; unfold head_named.l0
   repeat' first
   | (with_reducible exact ih0 _ _ _)
   | (with_reducible exact LeO.refl _)
   | (with_reducible exact LeO.none _)
   | (with_reducible refine LeO.ite ?_ ?_)
   | (with_reducible refine LeO.bind ?_ (fun _ => ?_))
   | exact ih0 _ _ _
   | exact LeO.none _
   | refine LeO.ite ?_ ?_
   | refine LeO.bind ?_ (fun _ => ?_)
theorem head_named.mono : ∀ a0 k, LeO (head_named.f k a0) (head_named.f (k + 1) a0) := by
 intro a0 k; have ih0 := head_named.mono_l k; unfold head_named.f
 repeat' first
   | (with_reducible exact ih0 _ _ _)
   | (with_reducible exact LeO.refl _)
   | (with_reducible exact LeO.none _)
   | (with_reducible refine LeO.ite ?_ ?_)
   | (with_reducible refine LeO.bind ?_ (fun _ => ?_))
   | exact ih0 _ _ _
   | exact LeO.none _
   | refine LeO.ite ?_ ?_
   | refine LeO.bind ?_ (fun _ => ?_)
set_option maxHeartbeats 8000000 in
set_option maxRecDepth 100000 in
theorem head_named.calls (k : Nat) (a0 : ByteArray) (r : Bool) (w : World) (h : head_named.f k a0 = some r) :
  Calls Tryz.prog 44 #[.string a0] w fun e w' => e = .returned (.bool r) ∧ Drawn0 w w' := by
 have H : (head_named.l0 k a0 (a0.size : Int) 0) = some r := h; clear h; have H' := Aside0.mk H; clear H
 go_enter Tryz.func44, Tryz.ntmps44
 go_wp2
 go_loopg [7] k (fun kq v7 w' => ∃ (x7_1 : Int), v7 = .int .i64 x7_1 ∧ Aside0 (head_named.l0 kq a0 (a0.size : Int) x7_1 = some r) ∧ Aside0 (kq ≤ k) ∧ Drawn0 w w')
 case atStart => exact ⟨(0), cl, H', ⟨Nat.le_refl _⟩, d0⟩
 case round =>
  clear H'; obtain ⟨x7_1, rfl, HA, HK1, ⟨m1, rfl⟩⟩ := hrel; cases gk with
  | zero => exact absurd HA.out (by simp [head_named.l0])
  | succ k1 =>
   have H := HA.out; clear HA; simp only [head_named.l0] at H
   by_cases c2 : x7_1 < (a0.size : Int)
   ·rw [if_pos c2] at H; have c2b0 : decide (x7_1 < (a0.size : Int)) = true := decide_eq_true c2; clear c2
    by_cases c3 : 0 ≤ x7_1
    ·rw [if_pos c3] at H; have c3b0 : decide (0 ≤ x7_1) = true := decide_eq_true c3; clear c3
     by_cases c4 : x7_1 < (a0.size : Int)
     ·rw [if_pos c4] at H; have c4b0 : decide (x7_1 < (a0.size : Int)) = true := decide_eq_true c4; clear c4
      by_cases c6 : (bt a0 x7_1) ≤ 32
      ·rw [if_pos c6] at H; have c6b0 : decide ((bt a0 x7_1) ≤ 32) = true := decide_eq_true c6; clear c6; obtain rfl := Option.some.inj H; have p5 : 0 ≤ (x7_1 : Int) := od; have q5 : x7_1 < (a0.size : Int) := od; have hx5 := bt_at a0 x7_1; replace p5 := eq_true p5; replace q5 := eq_true q5
       go_wp2
       go_ret
       exact ⟨cl, d0⟩
      ·rw [if_neg c6] at H; have c6b0 : decide ((bt a0 x7_1) ≤ 32) = false := decide_eq_false c6; clear c6
       by_cases c7 : (bt a0 x7_1) > 126
       ·rw [if_pos c7] at H; have c7b0 : decide (126 < (bt a0 x7_1)) = true := decide_eq_true c7; clear c7; obtain rfl := Option.some.inj H; have p5 : 0 ≤ (x7_1 : Int) := od; have q5 : x7_1 < (a0.size : Int) := od; have hx5 := bt_at a0 x7_1; replace p5 := eq_true p5; replace q5 := eq_true q5
        go_wp2
        go_ret
        exact ⟨cl, d0⟩
       ·rw [if_neg c7] at H; have c7b0 : decide (126 < (bt a0 x7_1)) = false := decide_eq_false c7; clear c7
        by_cases c8 : (bt a0 x7_1) = 58
        ·rw [if_pos c8] at H; have c8b0 : ((bt a0 x7_1) == 58) = true := beq_iff_eq.mpr c8; have c8b1 : ((bt a0 x7_1) != 58) = false := bne_eq_false_iff_eq.mpr c8; clear c8; obtain rfl := Option.some.inj H; have p5 : 0 ≤ (x7_1 : Int) := od; have q5 : x7_1 < (a0.size : Int) := od; have hx5 := bt_at a0 x7_1; replace p5 := eq_true p5; replace q5 := eq_true q5
         go_wp2
         go_ret
         exact ⟨cl, d0⟩
        ·rw [if_neg c8] at H; have c8b0 : ((bt a0 x7_1) == 58) = false := beq_eq_false_iff_ne.mpr c8; have c8b1 : ((bt a0 x7_1) != 58) = true := bne_iff_ne.mpr c8; have H' := Aside0.mk H; clear H; have p5 : 0 ≤ (x7_1 : Int) := od; have q5 : x7_1 < (a0.size : Int) := od; have hx5 := bt_at a0 x7_1; replace p5 := eq_true p5; replace q5 := eq_true q5
         go_wp2
         go_roundg k1
         case measure => have := HK1.out; omega
         case rel => exact ⟨(wrap64 (x7_1 + 1)), cl, H', ⟨by have := HK1.out; omega⟩, d0⟩
     ·rw [if_neg c4] at H; exact absurd H (by simp)
    ·rw [if_neg c3] at H; exact absurd H (by simp)
   ·rw [if_neg c2] at H; have c2b0 : decide (x7_1 < (a0.size : Int)) = false := decide_eq_false c2; clear c2
    by_cases c9 : a0.toList = ([] : List UInt8)
    ·rw [if_pos c9] at H; have c9b0 : (a0.toList == ([] : List UInt8)) = true := beq_iff_eq.mpr c9; have c9b1 : (a0.toList != ([] : List UInt8)) = false := bne_eq_false_iff_eq.mpr c9; clear c9; obtain rfl := Option.some.inj H
     go_wp2
     go_ret
     exact ⟨cl, d0⟩
    ·rw [if_neg c9] at H; have c9b0 : (a0.toList == ([] : List UInt8)) = false := beq_eq_false_iff_ne.mpr c9; have c9b1 : (a0.toList != ([] : List UInt8)) = true := bne_iff_ne.mpr c9; obtain rfl := Option.some.inj H
     go_wp2
     go_ret
     exact ⟨cl, d0⟩

end Go.Proofs.YtbjbpgmjijeppaaGreatDoor.Fn
namespace Go.Proofs.YtbjbpgmjijeppaaGreatDoor.Fn
open Go.RowKit Go.Proofs.YtbjbpgmjijeppaaGreatDoorW.PrintWords Go.Proofs.YtbjbpgmjijeppaaGreatDoorW.PrintLast Go.Proofs.YtbjbpgmjijeppaaGreatDoorW.PrintMore
attribute [local go_sem] max2_int min2_int max_two min_two max_three min_three max_four min_four
set_option linter.unusedVariables false
set_option linter.unusedSimpArgs false

def head_text.l0 : Nat → ByteArray → Int → Int → Option (Bool)
 | 0, _, _, _ => none
 | k + 1, x0, x6, x7 => if x7 < x6 then (if 0 ≤ x7 then (if x7 < (x0.size : Int) then (if (bt x0 x7) < 32 then (if (bt x0 x7) = 9 then (if (bt x0 x7) = 127 then (some false) else (head_text.l0 k x0 x6 (wrap64 (x7 + 1)))) else (some false)) else (if (bt x0 x7) = 127 then (some false) else (head_text.l0 k x0 x6 (wrap64 (x7 + 1))))) else (none)) else (none)) else (some true)
def head_text.f (k : Nat) (a0 : ByteArray) : Option (Bool) := head_text.l0 k a0 (a0.size : Int) 0
theorem head_text.mono_l : ∀ k, (∀ y0 y1 y2, LeO (head_text.l0 k y0 y1 y2) (head_text.l0 (k + 1) y0 y1 y2))
 | 0 => fun _ _ _ r h => by simp [head_text.l0] at h
 | k + 1 => by
  have ih0 := head_text.mono_l k
  ·intro y0 y1 y2; unfold head_text.l0
   repeat' first
   | (with_reducible exact ih0 _ _ _)
   | (with_reducible exact LeO.refl _)
   | (with_reducible exact LeO.none _)
   | (with_reducible refine LeO.ite ?_ ?_)
   | (with_reducible refine LeO.bind ?_ (fun _ => ?_))
   | exact ih0 _ _ _
   | exact LeO.none _
   | refine LeO.ite ?_ ?_
   | refine LeO.bind ?_ (fun _ => ?_)
theorem head_text.mono : ∀ a0 k, LeO (head_text.f k a0) (head_text.f (k + 1) a0) := by
 intro a0 k; have ih0 := head_text.mono_l k; unfold head_text.f
 repeat' first
   | (with_reducible exact ih0 _ _ _)
   | (with_reducible exact LeO.refl _)
   | (with_reducible exact LeO.none _)
   | (with_reducible refine LeO.ite ?_ ?_)
   | (with_reducible refine LeO.bind ?_ (fun _ => ?_))
   | exact ih0 _ _ _
   | exact LeO.none _
   | refine LeO.ite ?_ ?_
   | refine LeO.bind ?_ (fun _ => ?_)
set_option maxHeartbeats 8000000 in
set_option maxRecDepth 100000 in
theorem head_text.calls (k : Nat) (a0 : ByteArray) (r : Bool) (w : World) (h : head_text.f k a0 = some r) :
  Calls Tryz.prog 45 #[.string a0] w fun e w' => e = .returned (.bool r) ∧ Drawn0 w w' := by
 have H : (head_text.l0 k a0 (a0.size : Int) 0) = some r := h; clear h; have H' := Aside0.mk H; clear H
 go_enter Tryz.func45, Tryz.ntmps45
 go_wp2
 go_loopg [7] k (fun kq v7 w' => ∃ (x7_1 : Int), v7 = .int .i64 x7_1 ∧ Aside0 (head_text.l0 kq a0 (a0.size : Int) x7_1 = some r) ∧ Aside0 (kq ≤ k) ∧ Drawn0 w w')
 case atStart => exact ⟨(0), cl, H', ⟨Nat.le_refl _⟩, d0⟩
 case round =>
  clear H'; obtain ⟨x7_1, rfl, HA, HK1, ⟨m1, rfl⟩⟩ := hrel; cases gk with
  | zero => exact absurd HA.out (by simp [head_text.l0])
  | succ k1 =>
   have H := HA.out; clear HA; simp only [head_text.l0] at H
   by_cases c2 : x7_1 < (a0.size : Int)
   ·rw [if_pos c2] at H; have c2b0 : decide (x7_1 < (a0.size : Int)) = true := decide_eq_true c2; clear c2
    by_cases c3 : 0 ≤ x7_1
    ·rw [if_pos c3] at H; have c3b0 : decide (0 ≤ x7_1) = true := decide_eq_true c3; clear c3
     by_cases c4 : x7_1 < (a0.size : Int)
     ·rw [if_pos c4] at H; have c4b0 : decide (x7_1 < (a0.size : Int)) = true := decide_eq_true c4; clear c4
      by_cases c6 : (bt a0 x7_1) < 32
      ·rw [if_pos c6] at H; have c6b0 : decide ((bt a0 x7_1) < 32) = true := decide_eq_true c6; clear c6
       by_cases c7 : (bt a0 x7_1) = 9
       ·rw [if_pos c7] at H; have c7b0 : ((bt a0 x7_1) == 9) = true := beq_iff_eq.mpr c7; have c7b1 : ((bt a0 x7_1) != 9) = false := bne_eq_false_iff_eq.mpr c7; clear c7
        by_cases c8 : (bt a0 x7_1) = 127
        ·rw [if_pos c8] at H; have c8b0 : ((bt a0 x7_1) == 127) = true := beq_iff_eq.mpr c8; have c8b1 : ((bt a0 x7_1) != 127) = false := bne_eq_false_iff_eq.mpr c8; clear c8; obtain rfl := Option.some.inj H; have p5 : 0 ≤ (x7_1 : Int) := od; have q5 : x7_1 < (a0.size : Int) := od; have hx5 := bt_at a0 x7_1; replace p5 := eq_true p5; replace q5 := eq_true q5
         go_wp2
         go_ret
         exact ⟨cl, d0⟩
        ·rw [if_neg c8] at H; have c8b0 : ((bt a0 x7_1) == 127) = false := beq_eq_false_iff_ne.mpr c8; have c8b1 : ((bt a0 x7_1) != 127) = true := bne_iff_ne.mpr c8; have H' := Aside0.mk H; clear H; have p5 : 0 ≤ (x7_1 : Int) := od; have q5 : x7_1 < (a0.size : Int) := od; have hx5 := bt_at a0 x7_1; replace p5 := eq_true p5; replace q5 := eq_true q5
         go_wp2
         go_roundg k1
         case measure => have := HK1.out; omega
         case rel => exact ⟨(wrap64 (x7_1 + 1)), cl, H', ⟨by have := HK1.out; omega⟩, d0⟩
       ·rw [if_neg c7] at H; have c7b0 : ((bt a0 x7_1) == 9) = false := beq_eq_false_iff_ne.mpr c7; have c7b1 : ((bt a0 x7_1) != 9) = true := bne_iff_ne.mpr c7; obtain rfl := Option.some.inj H; have p5 : 0 ≤ (x7_1 : Int) := od; have q5 : x7_1 < (a0.size : Int) := od; have hx5 := bt_at a0 x7_1; replace p5 := eq_true p5; replace q5 := eq_true q5
        go_wp2
        go_ret
        exact ⟨cl, d0⟩
      ·rw [if_neg c6] at H; have c6b0 : decide ((bt a0 x7_1) < 32) = false := decide_eq_false c6; clear c6
       by_cases c9 : (bt a0 x7_1) = 127
       ·rw [if_pos c9] at H; have c9b0 : ((bt a0 x7_1) == 127) = true := beq_iff_eq.mpr c9; have c9b1 : ((bt a0 x7_1) != 127) = false := bne_eq_false_iff_eq.mpr c9; clear c9; obtain rfl := Option.some.inj H; have p5 : 0 ≤ (x7_1 : Int) := od; have q5 : x7_1 < (a0.size : Int) := od; have hx5 := bt_at a0 x7_1; replace p5 := eq_true p5; replace q5 := eq_true q5
        go_wp2
        go_ret
        exact ⟨cl, d0⟩
       ·rw [if_neg c9] at H; have c9b0 : ((bt a0 x7_1) == 127) = false := beq_eq_false_iff_ne.mpr c9; have c9b1 : ((bt a0 x7_1) != 127) = true := bne_iff_ne.mpr c9; have H' := Aside0.mk H; clear H; have p5 : 0 ≤ (x7_1 : Int) := od; have q5 : x7_1 < (a0.size : Int) := od; have hx5 := bt_at a0 x7_1; replace p5 := eq_true p5; replace q5 := eq_true q5
        go_wp2
        go_roundg k1
        case measure => have := HK1.out; omega
        case rel => exact ⟨(wrap64 (x7_1 + 1)), cl, H', ⟨by have := HK1.out; omega⟩, d0⟩
     ·rw [if_neg c4] at H; exact absurd H (by simp)
    ·rw [if_neg c3] at H; exact absurd H (by simp)
   ·rw [if_neg c2] at H; have c2b0 : decide (x7_1 < (a0.size : Int)) = false := decide_eq_false c2; clear c2; obtain rfl := Option.some.inj H
    go_wp2
    go_ret
    exact ⟨cl, d0⟩

end Go.Proofs.YtbjbpgmjijeppaaGreatDoor.Fn
namespace Go.Proofs.YtbjbpgmjijeppaaGreatDoor.Fn
open Go.RowKit Go.Proofs.YtbjbpgmjijeppaaGreatDoorW.PrintWords Go.Proofs.YtbjbpgmjijeppaaGreatDoorW.PrintLast Go.Proofs.YtbjbpgmjijeppaaGreatDoorW.PrintMore
attribute [local go_sem] max2_int min2_int max_two min_two max_three min_three max_four min_four
set_option linter.unusedVariables false
set_option linter.unusedSimpArgs false

def head_white.f (a0 : ByteArray) : Option (Bool) := if a0.toList = ([] : List UInt8) then (some false) else (if 0 < (a0.size : Int) then (if (bt a0 0) = 32 then (some true) else (some ((bt a0 0) == 9))) else (none))
set_option maxHeartbeats 8000000 in
set_option maxRecDepth 100000 in
theorem head_white.calls (a0 : ByteArray) (r : Bool) (w : World) (h : head_white.f a0 = some r) :
  Calls Tryz.prog 89 #[.string a0] w fun e w' => e = .returned (.bool r) ∧ Drawn0 w w' := by
 have H : (if a0.toList = ([] : List UInt8) then (some false) else (if 0 < (a0.size : Int) then (if (bt a0 0) = 32 then (some true) else (some ((bt a0 0) == 9))) else (none))) = some r := h; clear h
 by_cases c2 : a0.toList = ([] : List UInt8)
 ·rw [if_pos c2] at H; have c2b0 : (a0.toList == ([] : List UInt8)) = true := beq_iff_eq.mpr c2; have c2b1 : (a0.toList != ([] : List UInt8)) = false := bne_eq_false_iff_eq.mpr c2; clear c2; obtain rfl := Option.some.inj H
  go_enter Tryz.func89, Tryz.ntmps89
  go_wp2
  go_ret
  exact ⟨cl, d0⟩
 ·rw [if_neg c2] at H; have c2b0 : (a0.toList == ([] : List UInt8)) = false := beq_eq_false_iff_ne.mpr c2; have c2b1 : (a0.toList != ([] : List UInt8)) = true := bne_iff_ne.mpr c2
  by_cases c3 : 0 < (a0.size : Int)
  ·rw [if_pos c3] at H; have c3b0 : decide (0 < (a0.size : Int)) = true := decide_eq_true c3; have c3b1 : decide (0 < a0.size) = true := decide_eq_true (by omega); clear c3
   by_cases c5 : (bt a0 0) = 32
   ·rw [if_pos c5] at H; have c5b0 : ((bt a0 0) == 32) = true := beq_iff_eq.mpr c5; have c5b1 : ((bt a0 0) != 32) = false := bne_eq_false_iff_eq.mpr c5; clear c5; obtain rfl := Option.some.inj H; have p4 : 0 ≤ (0 : Int) := (by omega)
    have q4 : 0 < a0.size := (by have : (0 : Int) < (a0.size : Int) := od; omega)
    have hx4 : ∀ h : 0 < a0.size, ((a0[0]'h).toNat : Int) = bt a0 0 := bt_at a0 0; clear p4; have qi4 : (0 < (a0.size : Int)) = True := eq_true (od); replace q4 := eq_true q4
    go_enter Tryz.func89, Tryz.ntmps89
    go_wp2
    go_ret
    exact ⟨cl, d0⟩
   ·rw [if_neg c5] at H; have c5b0 : ((bt a0 0) == 32) = false := beq_eq_false_iff_ne.mpr c5; have c5b1 : ((bt a0 0) != 32) = true := bne_iff_ne.mpr c5; obtain rfl := Option.some.inj H; have p4 : 0 ≤ (0 : Int) := (by omega)
    have q4 : 0 < a0.size := (by have : (0 : Int) < (a0.size : Int) := od; omega)
    have hx4 : ∀ h : 0 < a0.size, ((a0[0]'h).toNat : Int) = bt a0 0 := bt_at a0 0; clear p4; have qi4 : (0 < (a0.size : Int)) = True := eq_true (od); replace q4 := eq_true q4; have p6 : 0 ≤ (0 : Int) := (by omega)
    have q6 : 0 < a0.size := (by have : (0 : Int) < (a0.size : Int) := od; omega)
    have hx6 : ∀ h : 0 < a0.size, ((a0[0]'h).toNat : Int) = bt a0 0 := bt_at a0 0; clear p6; have qi6 : (0 < (a0.size : Int)) = True := eq_true (od); replace q6 := eq_true q6
    go_enter Tryz.func89, Tryz.ntmps89
    go_wp2
    go_ret
    exact ⟨cl, d0⟩
  ·rw [if_neg c3] at H; exact absurd H (by simp)

end Go.Proofs.YtbjbpgmjijeppaaGreatDoor.Fn
