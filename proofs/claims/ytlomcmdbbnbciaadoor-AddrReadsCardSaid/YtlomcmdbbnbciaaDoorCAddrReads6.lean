/- The law bulletinlaw13.AddrReads returns true for every input: the address that any bytes are, and that they are written the one right way, or why there is none, are as the document has them; the tables of unicode/utf8 are as the program's text lays them. -/
import Derived.Test.YtlomcmdbbnbciaaDoorCAddrReads5
import Derived.Test.YtlomcmdbbnbciaaDoorRows
import Derived.HandedShaped
import Derived.LaidLaws
import Derived.LaidHandle
import Derived.Deep.DeepLaidRun
import Derived.Stop.Joined
import Derived.PinnedBridge
import Derived.Lib.LaidU8
import Derived.ProofKit
import Derived.Test.YtlomcmdbbnbciaaDoorTie
import Derived.Test.YtlomcmdbbnbciaaDoorCards
import Derived.WalkKit
import Derived.OpenShut
import Derived.ShutString
import Derived.ChangeOld
import Derived.Below
import Derived.SizedLaws
import Derived.Lib.SmallJoins
import Derived.SevenTiedAt
set_option linter.unusedVariables false
namespace Go.Proofs.YtlomcmdbbnbciaaDoor.Pl
open Go.RowKit Go.Proofs.YtlomcmdbbnbciaaDoorW.PrintWords Go.Proofs.YtlomcmdbbnbciaaDoor.Fn

/-! Layer 13: the address that tokens are. -/
def isT (t : Tok) (s : Bytes) : Bool := t.1 == 3 && t.2 == s
def wordT (t : Tok) : Bool := t.1 != 3
def atomT (t : Tok) : Bool := t.1 != 3 && t.1 == 1
def altOk (p : Tok → Bool) : List Tok → Bool
  | [] => false
  | [x] => p x
  | x :: d :: r => p x && isT d [46] && altOk p r
def cat (l : List Tok) : Bytes := l.flatMap (·.2)
def atSplit : List Tok → Option (List Tok × List Tok)
  | [] => none
  | t :: r => if isT t [64] = true then some ([], r) else (atSplit r).map fun x => (t :: x.1, x.2)
abbrev Res := ByteArray × ByteArray × Int
def finish (a b : Bytes) : Res := if why (str a) (str (fold b)) = 0 then (str a, str (fold b), 0) else (str [], str [], why (str a) (str (fold b)))
def noAddr : Res := (str [], str [], 130)
def ofT (l : List Tok) : Res := match atSplit l with
  | none => noAddr
  | some (A, B) => if altOk wordT A = true ∧ altOk atomT B = true then finish (cat A) (cat B) else noAddr

theorem atSplit_some {l A B : List Tok} (h : atSplit l = some (A, B)) : ∃ t, isT t [64] = true ∧ l = A ++ t :: B ∧ ∀ x ∈ A, isT x [64] = false := by
  induction l generalizing A B with
  | nil => cases h
  | cons t r ih =>
    rw [atSplit] at h
    by_cases ht : isT t [64] = true
    · rw [if_pos ht] at h
      cases h
      exact ⟨t, ht, rfl, by simp⟩
    · rw [if_neg ht] at h
      cases hr : atSplit r with
      | none => rw [hr] at h; cases h
      | some x =>
        obtain ⟨A', B'⟩ := x
        rw [hr] at h
        simp only [Option.map_some, Option.some.injEq, Prod.mk.injEq] at h
        obtain ⟨rfl, rfl⟩ := h
        obtain ⟨u, h1, h2, h3⟩ := ih hr
        refine ⟨u, h1, by rw [h2]; rfl, ?_⟩
        intro x hx
        rcases List.mem_cons.1 hx with e | e
        · rw [e]; simpa using ht
        · exact h3 x e
theorem atSplit_of {A B : List Tok} {t : Tok} (ht : isT t [64] = true) (hA : ∀ x ∈ A, isT x [64] = false) : atSplit (A ++ t :: B) = some (A, B) := by
  induction A with
  | nil => rw [List.nil_append, atSplit, if_pos ht]
  | cons a A ih =>
    rw [List.cons_append, atSplit, if_neg (by rw [hA a (by simp)]; decide), ih (fun x hx => hA x (List.mem_cons_of_mem _ hx))]
    rfl

/-! the program's: words joined by dots, as long as they go on -/
def jn (p : Tok → Bool) : List Tok → Option (Bytes × List Tok)
  | [] => none
  | [x] => if p x = true then some (x.2, []) else none
  | x :: d :: r => if p x = true then (if isT d [46] = true then (jn p r).map fun y => (x.2 ++ d.2 ++ y.1, y.2) else some (x.2, d :: r)) else none
theorem jn_some (p : Tok → Bool) : ∀ {l : List Tok} {s : Bytes} {q : List Tok}, jn p l = some (s, q) → ∃ A, l = A ++ q ∧ altOk p A = true ∧ s = cat A
  | [], s, q, h => by cases h
  | [x], s, q, h => by
    rw [jn] at h
    by_cases hp : p x = true
    · rw [if_pos hp] at h
      simp only [Option.some.injEq, Prod.mk.injEq] at h
      obtain ⟨rfl, rfl⟩ := h
      exact ⟨[x], rfl, hp, by simp [cat]⟩
    · rw [if_neg hp] at h; cases h
  | x :: d :: r, s, q, h => by
    rw [jn] at h
    by_cases hp : p x = true
    · rw [if_pos hp] at h
      by_cases hd : isT d [46] = true
      · rw [if_pos hd] at h
        cases hr : jn p r with
        | none => rw [hr] at h; cases h
        | some y =>
          obtain ⟨s', q'⟩ := y
          rw [hr] at h
          simp only [Option.map_some, Option.some.injEq, Prod.mk.injEq] at h
          obtain ⟨rfl, rfl⟩ := h
          obtain ⟨A, h1, h2, h3⟩ := jn_some p hr
          refine ⟨x :: d :: A, by rw [h1]; rfl, ?_, ?_⟩
          · rw [altOk, hp, hd, h2]; rfl
          · rw [h3]; simp [cat]
      · rw [if_neg hd] at h
        simp only [Option.some.injEq, Prod.mk.injEq] at h
        obtain ⟨rfl, rfl⟩ := h
        exact ⟨[x], rfl, hp, by simp [cat]⟩
    · rw [if_neg hp] at h; cases h
theorem jn_of (p : Tok → Bool) : ∀ (A q : List Tok), altOk p A = true → (∀ d r, q = d :: r → isT d [46] = false) → jn p (A ++ q) = some (cat A, q)
  | [], q, h, _ => by cases h
  | [x], q, h, hq => by
    have hp : p x = true := h
    cases q with
    | nil => rw [List.append_nil, jn, if_pos hp]; simp [cat]
    | cons d r =>
      rw [show [x] ++ d :: r = x :: d :: r from rfl, jn, if_pos hp, if_neg (by rw [hq d r rfl]; decide)]
      simp [cat]
  | x :: d :: A, q, h, hq => by
    rw [altOk, Bool.and_eq_true, Bool.and_eq_true] at h
    rw [show (x :: d :: A) ++ q = x :: d :: (A ++ q) from rfl, jn, if_pos h.1.1, if_pos h.1.2, jn_of p A q h.2 hq]
    simp [cat]
def resJ (w : Bytes) : Option (Bytes × List Tok) → ByteArray × List S142 × Bool
  | none => (str [], [], false)
  | some (s, q) => (str (w ++ s), q.map tok142, true)
def pOf (b : Bool) : Tok → Bool := fun t => if b = true then atomT t else wordT t
theorem rd142_0 (x : Tok) (r : List Tok) : rd_T142 ((x :: r).map tok142) 0 = tok142 x := rfl
theorem beq_str (t : Bytes) (a : Array UInt8) : ((str t).toList == (⟨a⟩ : ByteArray).toList) = (t == a.toList) := by
  rw [toList_str, toList_bs]
  rfl
def headIs (l : List Tok) (s : Bytes) : Bool := match l with | [] => false | t :: _ => isT t s
theorem addris_is (l : List Tok) (a : Array UInt8) : addr_is.f (l.map tok142) (⟨a⟩ : ByteArray) = some (headIs l a.toList) := by
  unfold addr_is.f
  cases l with
  | nil => rw [if_neg (by simp)]; rfl
  | cons t r =>
    rw [if_pos (by simp <;> omega), if_pos (by simp <;> omega), rd142_0]
    unfold headIs isT tok142
    simp only []
    rw [beq_str]
theorem joined_is (b : Bool) : ∀ (n k : Nat) (l : List Tok) (w : Bytes), l.length ≤ n → 2 * n + 2 ≤ k → w.length + (cat l).length ≤ 1000000 →
    addr_joined.l0 k (l.map tok142) b (str w) = some (resJ w (jn (pOf b) l))
  | n, k, [], w, hn, hk, hw => by
    obtain ⟨k, rfl⟩ : ∃ j, k = j + 2 := ⟨k - 2, by omega⟩
    rw [addr_joined.l0, if_pos (by simp), addr_joined.j1, if_pos rfl]
    rfl
  | 0, k, x :: r, w, hn, hk, hw => by simp at hn
  | n + 1, k, x :: r, w, hn, hk, hw => by
    obtain ⟨k, rfl⟩ : ∃ j, k = j + 2 := ⟨k - 2, by omega⟩
    simp only [List.length_cons] at hn
    have hsel : addr_joined.l0 (k + 2) ((x :: r).map tok142) b (str w) = addr_joined.j1 (k + 1) ((x :: r).map tok142) b (str w) (!(pOf b x)) := by
      rw [addr_joined.l0, if_neg (by simp <;> omega), if_pos (by simp <;> omega), rd142_0]
      have e3 : ((tok142 x).f0 = 3) = (x.1 = 3) := rfl
      unfold pOf atomT wordT
      by_cases h3 : x.1 = 3
      · rw [if_pos (by rw [e3]; exact h3)]
        cases b <;> simp [h3]
      · rw [if_neg (by rw [e3]; exact h3)]
        have q3 : (x.1 == 3) = false := by simpa using h3
        cases b with
        | true => rw [if_pos rfl]; simp [q3, tok142, bne]
        | false => rw [if_neg (by decide)]; simp [q3, bne]
    have hc : (cat (x :: r)).length = x.2.length + (cat r).length := by simp [cat]
    rw [hsel, addr_joined.j1]
    cases hp : pOf b x with
    | false =>
      rw [show (!false) = true from rfl, if_pos rfl]
      have : jn (pOf b) (x :: r) = none := by
        cases r with
        | nil => rw [jn, if_neg (by rw [hp]; decide)]
        | cons d r => rw [jn, if_neg (by rw [hp]; decide)]
      rw [this]
      rfl
    | true =>
      rw [show (!true) = false from rfl, if_neg (by decide), if_pos (by simp <;> omega), rd142_0, show (tok142 x).f1 = str x.2 from rfl, str_app, if_pos (by rw [str_size, str_size]; omega), if_pos (by simp <;> omega), Option.bind_some,
        show ((x :: r).map tok142).drop 1 = r.map tok142 from rfl, addris_is, Option.bind_some]
      cases r with
      | nil =>
        rw [show headIs [] (#[46] : Array UInt8).toList = false from rfl, if_neg (by decide), jn, if_pos hp]
        rfl
      | cons d r =>
        simp only [List.length_cons] at hn
        have hc2 : (cat (d :: r)).length = d.2.length + (cat r).length := by simp [cat]
        rw [jn, if_pos hp]
        cases hd : isT d [46] with
        | false =>
          rw [show headIs (d :: r) (#[46] : Array UInt8).toList = isT d [46] from rfl, hd, if_neg (by decide), if_neg (by decide)]
          rfl
        | true =>
          have hd2 : d.2 = [46] := by
            unfold isT at hd
            rw [Bool.and_eq_true, beq_iff_eq, beq_iff_eq] at hd
            exact hd.2
          rw [show headIs (d :: r) (#[46] : Array UInt8).toList = isT d [46] from rfl, hd, if_pos rfl, if_pos (by rw [str_size]; rw [hd2] at hc2; simp at hc2 ⊢ <;> omega), if_pos (by simp <;> omega), if_pos rfl,
            show ((d :: r).map tok142).drop 1 = r.map tok142 from rfl, show (⟨#[46]⟩ : ByteArray) = str [46] from rfl, str_app]
          rw [joined_is b n k r (w ++ x.2 ++ [46]) (by omega) (by omega) (by rw [hd2] at hc2; simp at hc2 ⊢ <;> omega)]
          cases hj : jn (pOf b) r with
          | none => rfl
          | some y =>
            obtain ⟨s, q⟩ := y
            simp [resJ, hd2]
theorem no64 {p : Tok → Bool} (hp : ∀ t, p t = true → t.1 ≠ 3) : ∀ {A : List Tok}, altOk p A = true → ∀ x ∈ A, isT x [64] = false
  | [], h, x, hx => by cases hx
  | [y], h, x, hx => by
    have : x = y := by simpa using hx
    subst this
    have := hp x h
    unfold isT
    simp [this]
  | y :: d :: A, h, x, hx => by
    rw [altOk, Bool.and_eq_true, Bool.and_eq_true] at h
    rcases List.mem_cons.1 hx with e | e
    · rw [e]
      have := hp y h.1.1
      unfold isT
      simp [this]
    · rcases List.mem_cons.1 e with e | e
      · rw [e]
        have := h.1.2
        unfold isT at this ⊢
        rw [Bool.and_eq_true, beq_iff_eq, beq_iff_eq] at this
        rw [this.2]
        simp
      · exact no64 hp h.2 x e
theorem addrOf_is (l : List Tok) (hl : l.length ≤ 100000) (hc : (cat l).length ≤ 100000) (k : Nat) (hk : 2 * l.length + 400000 ≤ k) : addr_Of.f k (l.map tok142) = some (ofT l) := by
  obtain ⟨k, rfl⟩ : ∃ j, k = j + 2 := ⟨k - 2, by omega⟩
  have bad : ∀ (k : Nat) (x : List S142) (y : ByteArray), addr_Of.j0 (k + 1) x y true = some noAddr := by
    intro k x y
    rw [addr_Of.j0, if_pos rfl]
    rfl
  have bad1 : ∀ (k : Nat) (x y : ByteArray), addr_Of.j1 (k + 1) x y true = some noAddr := by
    intro k x y
    rw [addr_Of.j1, if_pos rfl]
    rfl
  unfold addr_Of.f addr_joined.f
  rw [show (⟨#[]⟩ : ByteArray) = str [] from rfl, joined_is false l.length (k + 2) l [] (Nat.le_refl _) (by omega) (by simp <;> omega), Option.bind_some]
  have hpf : pOf false = wordT := by funext t; rfl
  have hpt : pOf true = atomT := by funext t; rfl
  rw [hpf]
  have hword : ∀ t, wordT t = true → t.1 ≠ 3 := fun t h => by unfold wordT at h; simpa using h
  cases hj : jn wordT l with
  | none =>
    rw [show resJ [] none = (str [], [], false) from rfl, if_neg (by decide), bad]
    unfold ofT
    cases hs : atSplit l with
    | none => rfl
    | some x =>
      obtain ⟨A, B⟩ := x
      obtain ⟨t, h1, h2, h3⟩ := atSplit_some hs
      simp only []
      rw [if_neg]
      rintro ⟨g, _⟩
      have := jn_of wordT A (t :: B) g (fun d r e => by
        cases e
        unfold isT at h1 ⊢
        rw [Bool.and_eq_true, beq_iff_eq, beq_iff_eq] at h1
        rw [h1.2]
        simp)
      rw [← h2, hj] at this
      cases this
  | some y =>
    obtain ⟨s, q⟩ := y
    obtain ⟨A0, g1, g2, g3⟩ := jn_some wordT hj
    have hA0 := no64 hword g2
    rw [show resJ [] (some (s, q)) = (str s, q.map tok142, true) from rfl]
    simp only [if_true]
    rw [addris_is, Option.bind_some]
    have hother : (∀ t r, q = t :: r → isT t [64] = false) → ofT l = noAddr := by
      intro hq
      unfold ofT
      cases hs : atSplit l with
      | none => rfl
      | some x =>
        obtain ⟨A, B⟩ := x
        obtain ⟨t, h1, h2, h3⟩ := atSplit_some hs
        simp only []
        rw [if_neg]
        rintro ⟨g, _⟩
        have hh := jn_of wordT A (t :: B) g (fun d r e => by
          cases e
          unfold isT at h1 ⊢
          rw [Bool.and_eq_true, beq_iff_eq, beq_iff_eq] at h1
          rw [h1.2]
          simp)
        rw [← h2, hj] at hh
        simp only [Option.some.injEq, Prod.mk.injEq] at hh
        have := hq t B hh.2
        rw [h1] at this
        cases this
    cases q with
    | nil =>
      rw [hother (fun t r e => by cases e)]
      exact bad _ _ _
    | cons t B =>
      simp only []
      rw [show headIs (t :: B) (#[64] : Array UInt8).toList = isT t [64] from rfl]
      cases ht : isT t [64] with
      | false =>
        rw [hother (fun t' r e => by cases e; exact ht)]
        exact bad _ _ _
      | true =>
        have hsp : atSplit l = some (A0, B) := by rw [g1]; exact atSplit_of ht hA0
        have hcl : (cat l).length = (cat A0).length + (t.2.length + (cat B).length) := by rw [g1]; simp [cat]
        have hll : l.length = A0.length + (B.length + 1) := by rw [g1]; simp
        rw [show (!true) = false from rfl, addr_Of.j0, if_neg (by decide), if_pos (by simp <;> omega), show ((t :: B).map tok142).drop 1 = B.map tok142 from rfl]
        unfold addr_joined.f
        rw [show (⟨#[]⟩ : ByteArray) = str [] from rfl, joined_is true B.length (k + 1) B [] (Nat.le_refl _) (by omega) (by simp <;> omega), Option.bind_some, hpt]
        unfold ofT
        rw [hsp]
        simp only []
        cases hj2 : jn atomT B with
        | none =>
          rw [show resJ [] none = (str [], [], false) from rfl, if_neg (by decide), bad1, if_neg]
          rintro ⟨_, g⟩
          have := jn_of atomT B [] g (fun d r e => by cases e)
          rw [List.append_nil, hj2] at this
          cases this
        | some y =>
          obtain ⟨s2, q2⟩ := y
          obtain ⟨A2, f1, f2, f3⟩ := jn_some atomT hj2
          rw [show resJ [] (some (s2, q2)) = (str s2, q2.map tok142, true) from rfl]
          simp only [if_true]
          cases q2 with
          | cons d r =>
            rw [show decide (((((d :: r).map tok142).length : Nat) : Int) > 0) = true by simp <;> omega, bad1, if_neg]
            rintro ⟨_, g⟩
            have := jn_of atomT B [] g (fun d r e => by cases e)
            rw [List.append_nil, hj2] at this
            simp at this
          | nil =>
            rw [List.append_nil] at f1
            subst f1
            rw [show decide ((((([] : List Tok).map tok142).length : Nat) : Int) > 0) = false from rfl, addr_Of.j1, if_neg (by decide), if_pos ⟨g2, f2⟩, f3, g3]
            have hb : (cat B).length ≤ 100000 := by omega
            have ha : (cat A0).length ≤ 100000 := by omega
            rw [glyphFold_is _ (by rw [str_size]; omega), bs_str, Option.bind_some, addrWhy_is _ _ (by rw [str_size]; omega) (by rw [str_size, fold_length]; omega) k (by rw [str_size]; omega), Option.bind_some]
            unfold finish
            by_cases hw : why (str (cat A0)) (str (fold (cat B))) = 0
            · rw [if_pos hw, if_pos hw]
            · rw [if_neg hw, if_neg hw]
              rfl
end Go.Proofs.YtlomcmdbbnbciaaDoor.Pl
set_option linter.unusedVariables false
namespace Go.Proofs.YtlomcmdbbnbciaaDoor.Pl
open Go.RowKit Go.Proofs.YtlomcmdbbnbciaaDoorW.PrintWords Go.Proofs.YtlomcmdbbnbciaaDoor.Fn

/-! Layer 13, the document's: the address that tokens are. -/
def chk (p : Tok → Bool) : Nat → List Tok → Bool
  | _, [] => true
  | m, t :: r => (if m % 2 = 1 then isT t [46] else p t) && chk p (m + 1) r
theorem chk_two (p : Tok → Bool) : ∀ (l : List Tok) (m : Nat), chk p (m + 2) l = chk p m l
  | [], m => rfl
  | t :: r, m => by
    rw [chk, chk, chk_two p r (m + 1)]
    have : (m + 2) % 2 = m % 2 := by omega
    rw [this]
theorem altOk_chk (p : Tok → Bool) : ∀ (l : List Tok), altOk p l = (chk p 0 l && decide (l.length % 2 = 1))
  | [] => rfl
  | [x] => by simp [altOk, chk]
  | x :: d :: r => by
    have e : chk p 0 (x :: d :: r) = (p x && (isT d [46] && chk p 0 r)) := by
      rw [chk, chk, chk_two]
      simp
    have e2 : decide ((x :: d :: r).length % 2 = 1) = decide (r.length % 2 = 1) := by
      congr 1
      simp only [List.length_cons]
      exact propext ⟨fun h => by omega, fun h => by omega⟩
    rw [altOk, altOk_chk p r, e, e2]
    cases p x <;> cases isT d [46] <;> simp
theorem rd148 {l : List Tok} {i : Nat} {t : Tok} {r : List Tok} (h : l.drop i = t :: r) : rd_T148 (l.map tok148) (i : Int) = tok148 t := by
  have h1 : l[i]? = some t := by
    have := congrArg List.head? h
    rw [List.head?_drop] at this
    exact this
  unfold rd_T148
  rw [List.getD_eq_getElem?_getD, List.getElem?_map]
  simp [h1]
theorem tmod2 (m : Nat) : Int.tmod (m : Int) 2 = ((m % 2 : Nat) : Int) := by
  rw [Int.tmod_eq_emod_of_nonneg (by omega)]
  omega
theorem toList148 (t : Tok) (c : UInt8) : ((tok148 t).f1.toList = [c]) = (t.2 = [c]) := by
  show ((str t.2).toList = [c]) = _
  rw [toList_str]
theorem refOf_found (l : List Tok) (hl : l.length ≤ 100000) (a : Nat) (K : Nat) : ∀ (r : List Tok) (i : Nat), l.drop i = r → i ≤ l.length →
    bulletinref13_Of.l0 (r.length + 1 + K) (l.map tok148) (a : Int) (i : Int) = bulletinref13_Of.l1 K (l.map tok148) (a : Int) 0 (str []) (str [])
  | [], i, hd, hi => by
    have : l.length ≤ i := by have := congrArg List.length hd; simp at this; omega
    rw [List.length_nil, show 0 + 1 + K = K + 1 by omega, bulletinref13_Of.l0, if_neg (by rw [List.length_map]; omega), if_neg (by omega)]
    rfl
  | t :: r, i, hd, hi => by
    obtain ⟨h1, h2⟩ := dropS_lt hd
    have ih := refOf_found l hl a K r (i + 1) h2 (by omega)
    rw [List.length_cons, show r.length + 1 + 1 + K = (r.length + 1 + K) + 1 by omega, bulletinref13_Of.l0, if_pos (by rw [List.length_map]; omega), if_pos (by omega), if_neg (c := (a : Int) < 0) (by omega), wrap_succ i (by omega), ih]
    repeat' split
    all_goals rfl
theorem refOf_seek (l : List Tok) (hl : l.length ≤ 100000) (K : Nat) : ∀ (r : List Tok) (i : Nat), l.drop i = r → i ≤ l.length →
    bulletinref13_Of.l0 (r.length + 1 + K) (l.map tok148) (-1) (i : Int) = match atSplit r with
      | none => some noAddr
      | some (A, B) => bulletinref13_Of.l1 K (l.map tok148) ((i + A.length : Nat) : Int) 0 (str []) (str [])
  | [], i, hd, hi => by
    have : l.length ≤ i := by have := congrArg List.length hd; simp at this; omega
    rw [List.length_nil, show 0 + 1 + K = K + 1 by omega, bulletinref13_Of.l0, if_neg (by rw [List.length_map]; omega), if_pos (by decide)]
    rfl
  | t :: r, i, hd, hi => by
    obtain ⟨h1, h2⟩ := dropS_lt hd
    have ih := refOf_seek l hl K r (i + 1) h2 (by omega)
    have fo := refOf_found l hl i K r (i + 1) h2 (by omega)
    rw [List.length_cons, show r.length + 1 + 1 + K = (r.length + 1 + K) + 1 by omega, bulletinref13_Of.l0, if_pos (by rw [List.length_map]; omega), if_pos (by omega), if_pos (c := (-1 : Int) < 0) (by decide), wrap_succ i (by omega), ih, fo, rd148 hd, atSplit]
    have e3 : ((tok148 t).f0 = 3) = (t.1 = 3) := rfl
    have e64 := toList148 t 64
    by_cases c3 : t.1 = 3
    · rw [if_pos (by rw [e3]; exact c3)]
      by_cases c64 : t.2 = [64]
      · have hT : isT t [64] = true := by unfold isT; simp [c3, c64]
        rw [if_pos (by rw [e64]; exact c64), if_pos hT]
        simp
      · have hT : isT t [64] = false := by unfold isT; simp [c64]
        rw [if_neg (by rw [e64]; exact c64), hT, if_neg (by decide)]
        cases atSplit r with
        | none => rfl
        | some x => obtain ⟨A, B⟩ := x; simp only [Option.map_some, List.length_cons]; congr 2; omega
    · have hT : isT t [64] = false := by unfold isT; simp [c3]
      rw [if_neg (by rw [e3]; exact c3), hT, if_neg (by decide)]
      cases atSplit r with
      | none => rfl
      | some x => obtain ⟨A, B⟩ := x; simp only [Option.map_some, List.length_cons]; congr 2; omega
theorem refOf_tok (L : List S148) (k : Nat) (a i : Int) (m : Nat) (ne : ¬ i = a) (x y : ByteArray) (t : Tok) :
    bulletinref13_Of.j2 (k + 3) L a i (m : Int) x y (tok148 t).f0 (tok148 t).f1 = if (if m % 2 = 1 then isT t [46] else (if a < i then atomT t else wordT t)) = true then bulletinref13_Of.j4 (k + 1) L a i false x y (tok148 t).f0 (tok148 t).f1 else some noAddr := by
  have e3 : ((tok148 t).f0 = 3) = (t.1 = 3) := rfl
  have e0 : (tok148 t).f0 = t.1 := rfl
  have e46 : ((tok148 t).f1.toList != ([46] : List UInt8)) = !(t.2 == [46]) := by
    show ((str t.2).toList != [46]) = _
    rw [toList_str]
    rfl
  rw [bulletinref13_Of.j2, if_neg ne, tmod2]
  by_cases hm : m % 2 = 1
  · rw [if_pos (by omega), if_pos hm]
    have j3f : bulletinref13_Of.j3 (k + 2) L a i (m : Int) false x y (tok148 t).f0 (tok148 t).f1 = bulletinref13_Of.j4 (k + 1) L a i false x y (tok148 t).f0 (tok148 t).f1 := by
      rw [bulletinref13_Of.j3, if_neg (by decide), if_neg ne, tmod2, if_neg (by omega)]
    have j3t : bulletinref13_Of.j3 (k + 2) L a i (m : Int) true x y (tok148 t).f0 (tok148 t).f1 = some noAddr := by
      rw [bulletinref13_Of.j3, if_pos rfl]
      rfl
    by_cases c3 : t.1 = 3
    · rw [if_pos (by rw [e3]; exact c3), e46]
      by_cases c46 : t.2 = [46]
      · have hT : isT t [46] = true := by unfold isT; simp [c3, c46]
        rw [show (!(t.2 == [46])) = false by simp [c46], j3f, if_pos hT]
      · have hT : isT t [46] = false := by unfold isT; simp [c46]
        rw [show (!(t.2 == [46])) = true by simp [c46], j3t, hT, if_neg (by decide)]
    · have hT : isT t [46] = false := by unfold isT; simp [c3]
      rw [if_neg (by rw [e3]; exact c3), j3t, hT, if_neg (by decide)]
  · rw [if_neg (c := ((m % 2 : Nat) : Int) = 1) (by omega), if_neg hm, bulletinref13_Of.j3, if_neg (by decide), if_neg ne, tmod2, if_pos (by omega)]
    have j4t : bulletinref13_Of.j4 (k + 1) L a i true x y (tok148 t).f0 (tok148 t).f1 = some noAddr := by
      rw [bulletinref13_Of.j4, if_pos rfl]
      rfl
    by_cases c3 : t.1 = 3
    · rw [if_pos (by rw [e3]; exact c3), j4t, if_neg]
      unfold atomT wordT
      split <;> simp [c3]
    · rw [if_neg (by rw [e3]; exact c3)]
      by_cases ha : a < i
      · rw [if_pos ha, if_pos ha, show ((tok148 t).f0 != 1) = (t.1 != 1) from rfl]
        unfold atomT
        by_cases c1 : t.1 = 1
        · rw [show (t.1 != 1) = false by simp [c1], if_pos (by simp [c1])]
        · rw [show (t.1 != 1) = true by simp [c1], j4t, if_neg (by simp [c1])]
      · rw [if_neg ha, if_neg ha, if_pos (by unfold wordT; simp [c3])]
theorem refOf_end (a : Nat) (n : Nat) (hn : n ≤ 100000) (ha : a < n) (x y : Bytes) (hx : x.length ≤ 100000) (hy : y.length ≤ 100000) (K : Nat) (hK : 700000 ≤ K) (Lk : List S148) (hL : Lk.length = n) :
    (if (Int.tmod (a : Int) 2) = 0 then (bulletinref13_Of.j5 (K + 1) true (str x) (str y)) else (bulletinref13_Of.j5 (K + 1) ((Int.tmod (wrap64 ((wrap64 ((Lk.length : Int) - (a : Int))) - 1)) 2) == 0) (str x) (str y))) =
      some (if a % 2 = 1 ∧ (n - a - 1) % 2 = 1 then finish x y else noAddr) := by
  have e : wrap64 ((wrap64 ((Lk.length : Int) - (a : Int))) - 1) = ((n - a - 1 : Nat) : Int) := by
    rw [hL, wrap_id (x := (n : Int) - (a : Int)) (by omega) (by omega), wrap_id (by omega) (by omega)]
    omega
  have bad : bulletinref13_Of.j5 (K + 1) true (str x) (str y) = some noAddr := by
    rw [bulletinref13_Of.j5, if_pos rfl]
    rfl
  rw [e, tmod2, tmod2]
  by_cases h1 : a % 2 = 1
  · rw [if_neg (by omega)]
    by_cases h2 : (n - a - 1) % 2 = 1
    · rw [show (((((n - a - 1) % 2 : Nat)) : Int) == 0) = false by rw [beq_eq_false_iff_ne]; omega, bulletinref13_Of.j5, if_neg (by decide), reffold_is _ (by rw [str_size]; omega) K (by rw [str_size]; omega), bs_str, Option.bind_some, refWhy_is _ _ (by rw [str_size]; omega) (by rw [str_size, fold_length]; omega) K (by rw [str_size, str_size, fold_length]; omega), Option.bind_some, if_pos (c := a % 2 = 1 ∧ (n - a - 1) % 2 = 1) ⟨h1, h2⟩]
      unfold finish
      by_cases hw : why (str x) (str (fold y)) = 0
      · rw [if_pos hw, if_pos hw]
      · rw [if_neg hw, if_neg hw]
        rfl
    · rw [show (((((n - a - 1) % 2 : Nat)) : Int) == 0) = true by rw [beq_iff_eq]; omega, bad, if_neg (fun h => h2 h.2)]
  · rw [if_pos (by omega), bad, if_neg (fun h => h1 h.1)]
theorem refOf_B (l A B : List Tok) (t0 : Tok) (hl : l = A ++ t0 :: B) (hn : l.length ≤ 100000) (hc : (cat l).length ≤ 50000) (K : Nat) (hK : 700000 ≤ K) (x : Bytes) (hx : x.length ≤ 50000) :
    ∀ (r : List Tok) (m : Nat) (y : Bytes), B.drop m = r → m ≤ B.length → y.length + (cat r).length ≤ 50000 →
    bulletinref13_Of.l1 (4 * r.length + 2 + K) (l.map tok148) (A.length : Int) ((A.length + 1 + m : Nat) : Int) (str x) (str y) = some (if chk atomT m r = true ∧ A.length % 2 = 1 ∧ B.length % 2 = 1 then finish x (y ++ cat r) else noAddr)
  | [], m, y, hd, hm, hy => by
    have hm2 : B.length ≤ m := by have := congrArg List.length hd; simp at this; omega
    have hll : l.length = A.length + (B.length + 1) := by rw [hl]; simp
    rw [List.length_nil, show 4 * 0 + 2 + K = (K + 1) + 1 by omega, bulletinref13_Of.l1, if_neg (by rw [List.length_map]; omega), refOf_end A.length l.length hn (by omega) x y (by omega) (by simp [cat] at hy; omega) K hK _ (by rw [List.length_map])]
    rw [show l.length - A.length - 1 = B.length by omega]
    simp [chk, cat]
  | t :: r, m, y, hd, hm, hy => by
    obtain ⟨h1, h2⟩ := dropS_lt hd
    have hll : l.length = A.length + (B.length + 1) := by rw [hl]; simp
    have hdl : l.drop (A.length + 1 + m) = t :: r := by
      rw [hl, List.drop_append, List.drop_of_length_le (by omega), List.nil_append, show A.length + 1 + m - A.length = m + 1 by omega]
      exact hd
    have hcr : (cat (t :: r)).length = t.2.length + (cat r).length := by simp [cat]
    have ew : wrap64 ((wrap64 (((A.length + 1 + m : Nat) : Int) - (A.length : Int))) - 1) = ((m : Nat) : Int) := by
      rw [wrap_id (x := ((A.length + 1 + m : Nat) : Int) - (A.length : Int)) (by omega) (by omega), wrap_id (by omega) (by omega)]
      omega
    rw [List.length_cons, show 4 * (r.length + 1) + 2 + K = ((4 * r.length + 2 + K) + 3) + 1 by omega, bulletinref13_Of.l1, if_pos (by rw [List.length_map]; omega), if_pos (by omega), if_pos (by omega), rd148 hdl, ew, refOf_tok _ _ _ _ m (by omega), chk]
    rw [if_pos (c := (A.length : Int) < ((A.length + 1 + m : Nat) : Int)) (by omega)]
    cases hok : (if m % 2 = 1 then isT t [46] else atomT t) with
    | false =>
      rw [if_neg (by decide), if_neg]
      rintro ⟨h, _⟩
      simp at h
    | true =>
      rw [if_pos rfl, bulletinref13_Of.j4, if_neg (by decide), if_neg (c := ((A.length + 1 + m : Nat) : Int) < (A.length : Int)) (by omega), if_pos (by omega), show (tok148 t).f1 = str t.2 from rfl, str_app, if_pos (by rw [str_size, str_size]; omega), wrap_succ _ (by omega)]
      rw [show A.length + 1 + m + 1 = A.length + 1 + (m + 1) by omega, refOf_B l A B t0 hl hn hc K hK x hx r (m + 1) (y ++ t.2) h2 (by omega) (by rw [List.length_append]; omega)]
      simp [cat]
theorem refOf_A (l A B : List Tok) (t0 : Tok) (hl : l = A ++ t0 :: B) (hn : l.length ≤ 100000) (hc : (cat l).length ≤ 50000) (K : Nat) (hK : 700000 ≤ K) :
    ∀ (r : List Tok) (i : Nat) (x : Bytes), A.drop i = r → i ≤ A.length → x.length + (cat r).length ≤ 50000 →
    bulletinref13_Of.l1 (4 * (r.length + 1 + B.length) + 2 + K) (l.map tok148) (A.length : Int) (i : Int) (str x) (str []) = some (if chk wordT i r = true ∧ chk atomT 0 B = true ∧ A.length % 2 = 1 ∧ B.length % 2 = 1 then finish (x ++ cat r) (cat B) else noAddr)
  | [], i, x, hd, hi, hx => by
    have hi2 : A.length = i := by have := congrArg List.length hd; simp at this; omega
    have hll : l.length = A.length + (B.length + 1) := by rw [hl]; simp
    have hdl : l.drop i = t0 :: B := by
      rw [hl, ← hi2, List.drop_append, List.drop_of_length_le (Nat.le_refl _), List.nil_append, Nat.sub_self, List.drop_zero]
    have hcl : (cat l).length = (cat A).length + (t0.2.length + (cat B).length) := by rw [hl]; simp [cat]
    rw [List.length_nil, show 4 * (0 + 1 + B.length) + 2 + K = ((4 * B.length + 2 + K) + 3) + 1 by omega, bulletinref13_Of.l1, if_pos (by rw [List.length_map]; omega), if_pos (by omega), if_neg (by omega), rd148 hdl, bulletinref13_Of.j2, if_pos (by omega), bulletinref13_Of.j3, if_neg (by decide), if_pos (by omega), bulletinref13_Of.j4, if_neg (by decide), if_neg (by omega), if_neg (by omega), wrap_succ i (by omega)]
    have hB := refOf_B l A B t0 hl hn hc K hK x (by omega) B 0 [] rfl (by omega) (by simp; omega)
    rw [show A.length + 1 + 0 = i + 1 by omega] at hB
    rw [hB]
    simp [chk, cat]
  | t :: r, i, x, hd, hi, hx => by
    obtain ⟨h1, h2⟩ := dropS_lt hd
    have hll : l.length = A.length + (B.length + 1) := by rw [hl]; simp
    have hdl : l.drop i = t :: (r ++ t0 :: B) := by
      rw [hl, List.drop_append_of_le_length (by omega), hd]
      rfl
    have hcr : (cat (t :: r)).length = t.2.length + (cat r).length := by simp [cat]
    rw [List.length_cons, show 4 * (r.length + 1 + 1 + B.length) + 2 + K = ((4 * (r.length + 1 + B.length) + 2 + K) + 3) + 1 by omega, bulletinref13_Of.l1, if_pos (by rw [List.length_map]; omega), if_pos (by omega), if_neg (by omega), rd148 hdl, refOf_tok _ _ _ _ i (by omega), chk]
    rw [if_neg (c := (A.length : Int) < (i : Int)) (by omega)]
    cases hok : (if i % 2 = 1 then isT t [46] else wordT t) with
    | false =>
      rw [if_neg (by decide), if_neg]
      rintro ⟨h, _⟩
      simp at h
    | true =>
      rw [if_pos rfl, bulletinref13_Of.j4, if_neg (by decide), if_pos (by omega), show (tok148 t).f1 = str t.2 from rfl, str_app, if_pos (by rw [str_size, str_size]; omega), if_neg (by omega), wrap_succ i (by omega)]
      rw [refOf_A l A B t0 hl hn hc K hK r (i + 1) (x ++ t.2) h2 (by omega) (by rw [List.length_append]; omega)]
      simp [cat]
theorem refOf_is (l : List Tok) (hn : l.length ≤ 100000) (hc : (cat l).length ≤ 50000) (k : Nat) (hk : 5 * l.length + 700100 ≤ k) : bulletinref13_Of.f k (l.map tok148) = some (ofT l) := by
  obtain ⟨K0, rfl⟩ : ∃ j, k = l.length + 1 + j := ⟨k - (l.length + 1), by omega⟩
  have hs := refOf_seek l hn K0 l 0 rfl (by omega)
  unfold bulletinref13_Of.f ofT
  rw [show (0 : Int) = ((0 : Nat) : Int) from rfl, hs]
  cases hsp : atSplit l with
  | none => rfl
  | some y =>
    obtain ⟨A, B⟩ := y
    obtain ⟨t0, h1, h2, h3⟩ := atSplit_some hsp
    have hll : l.length = A.length + (B.length + 1) := by rw [h2]; simp
    have hcl : (cat l).length = (cat A).length + (t0.2.length + (cat B).length) := by rw [h2]; simp [cat]
    simp only []
    obtain ⟨K, rfl⟩ : ∃ j, K0 = 4 * (A.length + 1 + B.length) + 2 + j := ⟨K0 - (4 * (A.length + 1 + B.length) + 2), by omega⟩
    have hA := refOf_A l A B t0 h2 hn hc K (by omega) A 0 [] rfl (by omega) (by simp; omega)
    rw [Nat.zero_add]
    rw [show ((0 : Nat) : Int) = 0 from rfl] at hA
    rw [hA, altOk_chk, altOk_chk]
    simp only [List.nil_append, Bool.and_eq_true, decide_eq_true_eq]
    congr 1
    by_cases q1 : chk wordT 0 A = true <;> by_cases q2 : chk atomT 0 B = true <;> by_cases q3 : A.length % 2 = 1 <;> by_cases q4 : B.length % 2 = 1 <;> simp [q1, q2, q3, q4]
end Go.Proofs.YtlomcmdbbnbciaaDoor.Pl
set_option linter.unusedVariables false
namespace Go.Proofs.YtlomcmdbbnbciaaDoor.Pl
open Go.RowKit Go.Proofs.YtlomcmdbbnbciaaDoorW.PrintWords Go.Proofs.YtlomcmdbbnbciaaDoor.Fn
set_option maxRecDepth 100000 in
theorem works13_at : bulletinlaw13_works.f 100 = some true := by decide +kernel
theorem works13 (k : Nat) (hk : 100 ≤ k) : bulletinlaw13_works.f k = some true := mono_up bulletinlaw13_works.mono works13_at k hk
end Go.Proofs.YtlomcmdbbnbciaaDoor.Pl
set_option linter.unusedVariables false
set_option linter.unusedSimpArgs false
namespace Go.Proofs.YtlomcmdbbnbciaaDoor.Pl
open Go.RowKit Go.Proofs.YtlomcmdbbnbciaaDoorW.PrintWords Go.Proofs.YtlomcmdbbnbciaaDoor.Fn

/-! how many tokens there are, and how long they are -/
def pend : Sc → Nat
  | .atom _ => 1
  | _ => 0
theorem cat_app (a b : List Tok) : cat (a ++ b) = cat a ++ cat b := by simp [cat]
theorem tail_len {c : UInt8} {l : Bytes} (h : foldAt (c :: l) = true) : l.tail.length + 1 = l.length := by
  cases l with
  | nil => cases h
  | cons b l => simp
theorem stepOut_bound {acc : List Tok} {c : UInt8} {l : Bytes} {a : List Tok} {t : Sc} {r : Bytes} (h : stepOut acc c l = .inl (a, t, r)) :
    a.length + pend t + r.length ≤ acc.length + (l.length + 1) ∧ (cat a).length + (wOf t).length + r.length ≤ (cat acc).length + (l.length + 1) := by
  unfold stepOut at h
  by_cases c1 : foldAt (c :: l) = true
  · rw [if_pos c1] at h
    have := tail_len c1
    simp only [Sum.inl.injEq, Prod.mk.injEq] at h
    obtain ⟨rfl, rfl, rfl⟩ := h
    simp only [pend, wOf, List.length_nil]
    omega
  · rw [if_neg c1] at h
    repeat' split at h
    all_goals (first | (cases h; done) | (simp only [Sum.inl.injEq, Prod.mk.injEq] at h; obtain ⟨rfl, rfl, rfl⟩ := h; simp only [pend, wOf, cat_app, List.length_append, List.length_nil, List.length_cons]; simp [cat]; try omega))
theorem step_bound {acc : List Tok} {st : Sc} {c : UInt8} {l : Bytes} {a : List Tok} {t : Sc} {r : Bytes} (h : step acc st c l = .inl (a, t, r)) :
    a.length + pend t + r.length ≤ acc.length + pend st + (l.length + 1) ∧ (cat a).length + (wOf t).length + r.length ≤ (cat acc).length + (wOf st).length + (l.length + 1) := by
  cases st with
  | out =>
    have := stepOut_bound h
    rw [show pend .out = 0 from rfl, show wOf .out = [] from rfl, List.length_nil]
    omega
  | atom w =>
    unfold step at h
    simp only [] at h
    by_cases ha : atomic c = true
    · rw [if_pos ha] at h
      simp only [Sum.inl.injEq, Prod.mk.injEq] at h
      obtain ⟨rfl, rfl, rfl⟩ := h
      simp only [pend, wOf, List.length_append, List.length_cons, List.length_nil]
      omega
    · rw [if_neg ha] at h
      have := stepOut_bound h
      rw [cat_app] at this
      rw [show pend (.atom w) = 1 from rfl, show wOf (.atom w) = w from rfl]
      simp only [List.length_append, List.length_cons, List.length_nil] at this ⊢
      have e : (cat [((1 : Int), w)]).length = w.length := by simp [cat]
      omega
  | quot w b =>
    cases b with
    | true =>
      unfold step at h
      simp only [] at h
      repeat' split at h
      all_goals (first | (cases h; done) | (simp only [Sum.inl.injEq, Prod.mk.injEq] at h; obtain ⟨rfl, rfl, rfl⟩ := h; simp only [pend, wOf, List.length_append, List.length_cons, List.length_nil]; omega))
    | false =>
      unfold step at h
      simp only [] at h
      by_cases c1 : foldAt (c :: l) = true
      · rw [if_pos c1] at h
        have := tail_len c1
        simp only [Sum.inl.injEq, Prod.mk.injEq] at h
        obtain ⟨rfl, rfl, rfl⟩ := h
        simp only [pend, wOf]
        omega
      · rw [if_neg c1] at h
        have e : (cat [((2 : Int), w)]).length = w.length := by simp [cat]
        repeat' split at h
        all_goals (first | (cases h; done) | (simp only [Sum.inl.injEq, Prod.mk.injEq] at h; obtain ⟨rfl, rfl, rfl⟩ := h; simp only [pend, wOf, cat_app, List.length_append, List.length_cons, List.length_nil]; omega))
  | comm d b =>
    cases b with
    | true =>
      unfold step at h
      simp only [] at h
      repeat' split at h
      all_goals (first | (cases h; done) | (simp only [Sum.inl.injEq, Prod.mk.injEq] at h; obtain ⟨rfl, rfl, rfl⟩ := h; simp only [pend, wOf, List.length_append, List.length_cons, List.length_nil]; omega))
    | false =>
      unfold step commAfter at h
      simp only [] at h
      by_cases c1 : foldAt (c :: l) = true
      · rw [if_pos c1] at h
        have := tail_len c1
        simp only [Sum.inl.injEq, Prod.mk.injEq] at h
        obtain ⟨rfl, rfl, rfl⟩ := h
        simp only [pend, wOf]
        omega
      · rw [if_neg c1] at h
        generalize (if c = 40 then d + 1 else if c = 41 then d - 1 else d) = d' at h
        repeat' split at h
        all_goals (first | (cases h; done) | (simp only [Sum.inl.injEq, Prod.mk.injEq] at h; obtain ⟨rfl, rfl, rfl⟩ := h; simp only [pend, wOf, List.length_nil]; omega))
theorem scan_bound : ∀ (k : Nat) (acc : List Tok) (st : Sc) (l : Bytes), l.length ≤ k →
    (scan k acc st l).1.length ≤ acc.length + pend st + l.length ∧ (cat (scan k acc st l).1).length ≤ (cat acc).length + (wOf st).length + l.length
  | k, acc, st, [], _ => by
    have e : scan k acc st [] = endOf acc st := by cases k <;> rfl
    rw [e]
    cases st <;> simp [endOf, pend, wOf, cat]
  | 0, acc, st, c :: l, h => by simp at h
  | k + 1, acc, st, c :: l, h => by
    rw [scan]
    simp only [List.length_cons] at h
    cases hs : step acc st c l with
    | inr e => simp [cat]
    | inl x =>
      obtain ⟨a, t, r⟩ := x
      have h1 := step_bound hs
      have h2 := step_le hs
      have ih := scan_bound k a t r (by omega)
      simp only [List.length_cons]
      omega
theorem scanL_bound (l : Bytes) : (scanL [] .out l).1.length ≤ l.length ∧ (cat (scanL [] .out l).1).length ≤ l.length := by
  have := scan_bound l.length [] .out l (Nat.le_refl _)
  unfold scanL
  simp only [List.length_nil, pend, wOf, cat, List.flatMap_nil] at this ⊢
  omega
theorem finish_size (a b : Bytes) : (finish a b).1.size ≤ a.length ∧ (finish a b).2.1.size ≤ b.length := by
  unfold finish
  split
  · simp only [str_size, fold_length]; omega
  · simp only [str_size, List.length_nil]; omega
theorem ofT_size (l : List Tok) : (ofT l).1.size ≤ (cat l).length ∧ (ofT l).2.1.size ≤ (cat l).length := by
  unfold ofT
  cases hs : atSplit l with
  | none => simp [noAddr, str_size]
  | some x =>
    obtain ⟨A, B⟩ := x
    obtain ⟨t, h1, h2, h3⟩ := atSplit_some hs
    have hcl : (cat l).length = (cat A).length + (t.2.length + (cat B).length) := by rw [h2]; simp [cat]
    simp only []
    split
    · have := finish_size (cat A) (cat B)
      omega
    · simp [noAddr, str_size]
def parseL (s : ByteArray) : Res := if (scanL [] .out (bs s)).2 = 0 then ofT (scanL [] .out (bs s)).1 else noAddr
theorem parseL_size (s : ByteArray) : (parseL s).1.size ≤ s.size ∧ (parseL s).2.1.size ≤ s.size := by
  have h := scanL_bound (bs s)
  have h2 := ofT_size (scanL [] .out (bs s)).1
  rw [bs_length] at h
  unfold parseL
  split
  · omega
  · simp [noAddr, str_size]
theorem addrParse_is (s : ByteArray) (hs : s.size ≤ 50000) (k : Nat) (hk : 1000000 ≤ k) : addr_Parse.f k s = some (parseL s) := by
  have h := scanL_bound (bs s)
  rw [bs_length] at h
  unfold addr_Parse.f parseL
  rw [lexScan_is s (by omega) k (by omega), Option.bind_some]
  simp only []
  by_cases h0 : (scanL [] .out (bs s)).2 = 0
  · rw [if_pos h0, if_pos h0, addrOf_is _ (by omega) (by omega) k (by omega), Option.bind_some]
  · rw [if_neg h0, if_neg h0]
    rfl
theorem refParse_is (s : ByteArray) (hs : s.size ≤ 50000) (k : Nat) (hk : 1000000 ≤ k) : bulletinref13_Parse.f k s = some (parseL s) := by
  have h := scanL_bound (bs s)
  rw [bs_length] at h
  unfold bulletinref13_Parse.f parseL
  rw [refScan_is s (by omega) k (by omega), Option.bind_some]
  unfold res148
  simp only []
  by_cases h0 : (scanL [] .out (bs s)).2 = 0
  · rw [if_pos h0, if_pos h0, refOf_is _ (by omega) (by omega) k (by omega), Option.bind_some]
  · rw [if_neg h0, if_neg h0]
    rfl
def strictL (s : ByteArray) : Res := if (parseL s).2.2 = 0 then (if fold (bs s) = fold (textL (bs (parseL s).1) (bs (parseL s).2.1)) then parseL s else noAddr) else parseL s
theorem addrStrict_is (s : ByteArray) (hs : s.size ≤ 50000) (k : Nat) (hk : 1000000 ≤ k) : addr_Strict.f k s = some (strictL s) := by
  have h := parseL_size s
  unfold addr_Strict.f strictL
  rw [addrParse_is s hs k hk, Option.bind_some]
  by_cases h0 : (parseL s).2.2 = 0
  · rw [if_pos h0, if_pos h0, glyphFold_is s (by omega), Option.bind_some, addrKey_is _ _ (by omega) (by omega) k (by omega), Option.bind_some, toList_str, toList_str]
    split <;> rfl
  · rw [if_neg h0, if_neg h0]
theorem refStrict_is (s : ByteArray) (hs : s.size ≤ 50000) (k : Nat) (hk : 1000000 ≤ k) : bulletinref13_Strict.f k s = some (strictL s) := by
  have h := parseL_size s
  unfold bulletinref13_Strict.f strictL
  rw [refParse_is s hs k hk, Option.bind_some]
  by_cases h0 : (parseL s).2.2 = 0
  · rw [if_pos h0, if_pos h0, reffold_is s (by omega) k (by omega), Option.bind_some, refKey_is _ _ (by omega) (by omega) k (by omega), Option.bind_some, toList_str, toList_str]
    split <;> rfl
  · rw [if_neg h0, if_neg h0]
theorem AddrReads (s : ByteArray) : ∃ k, bulletinlaw13_AddrReads.f k s = some true := by
  refine ⟨1000000, ?_⟩
  generalize hk : (1000000 : Nat) = k
  have hw := works13 k (by omega)
  unfold bulletinlaw13_AddrReads.f
  by_cases h1 : (s.size : Int) > 1000
  · rw [if_pos h1, hw]
    rfl
  rw [if_neg h1, addrParse_is s (by omega) k (by omega), Option.bind_some, addrStrict_is s (by omega) k (by omega), Option.bind_some, refParse_is s (by omega) k (by omega), Option.bind_some, refStrict_is s (by omega) k (by omega), Option.bind_some]
  simp only [bulletinlaw13_Of.f, Option.bind_some, hw]
  simp
end Go.Proofs.YtlomcmdbbnbciaaDoor.Pl
set_option linter.unusedVariables false
namespace Go.Proofs.YtlomcmdbbnbciaaDoor
open Go.ChangeShapes Go.WideShapes Go.ChangeAt Go.RowKit

/-! What all rows of this seat share: a world that meets the condition; the premises as the walks want them. -/
theorem own : ownKnob Tryd.prog.godebug = none := by kernel_rfl
theorem laidOut : laidOutB Tryd.prog = true := by kernel_rfl
def listed : List (String × DataW Unit) := [("unicode/utf8.acceptRanges", Rows.laid_unicode_utf8_acceptRanges), ("unicode/utf8.first", Rows.laid_unicode_utf8_first)]
noncomputable def laidWorld (os : Os) : World :=
  let w0 := World.holding Tryd.prog os ⟨#[], #[], []⟩
  let put (h : Array Obj) (g : Nat) (cs : Array Value) : Array Obj := h.modify g fun
    | .cells _ t frozen => .cells cs t frozen
    | o => o
  let h1 := put w0.heap 0 (Lib.firstTab.map fun z => Value.int .u8 z).toArray
  let h2 := put h1 1 ((List.range 16).flatMap fun i => [Value.int .u8 (Lib.accLo i), Value.int .u8 (Lib.accHi i)]).toArray
  { w0 with heap := h2 }
set_option maxRecDepth 100000 in
theorem laid_met (os : Os) (args : Array Value) : laidMetH Tryd.prog listed ((laidWorld os).forCall (fun _ _ => 0) ⟨#[], args, []⟩).memory :=
  laidMetH_of_parts (laidMet_of_run' 8 (by kernel_rfl) (by kernel_rfl)) (by kernel_rfl)

theorem lift_both {H : Type} {enc : TypeId × Value → H} {a : Assume} {C : Checked} {os : Os} {f : FuncId} {fn : Func} {s : ChangeSpec} {conds : List PathCond} {apart fresh handsOn again : Bool} {X : World → Array Value → Prop}
    (hX : ∀ (w w' : World) (args : Array Value), w.heap = w'.heap → X w args → X w' args)
    (own : ownKnob C.prog.godebug = none) (started : os.Started) (noInit : C.prog.inits.idxOf? f = none) (hfn : C.prog.funcs[f]? = some fn)
    (witness : ∃ (w : World) (tape : Tape) (i : Input), w.os = os ∧ (w.forCall tape i).Shaped C.prog ∧ i.vars = [] ∧ Input.okWide C.prog (w.forCall tape i) .any w.heap.size f i ∧
      ((s.pre enc C.prog fn conds apart (w.forCall tape i).memory i.args ∧ X (w.forCall tape i).memory i.args) ∧ sizedMet enc C.prog fn (OpenSpec.ofChange s) apart (w.forCall tape i).memory i.args) ∧ a.holds C.prog (lone (Frame.enter C.prog f i.args .normal) [] (w.forCall tape i)))
    (contract : ∀ (W : World) (base : Nat) (args : Array Value) (ds gs : List (DataW H)) (before : List MemPlace),
      (∀ (j : Nat) t v, fn.params[j]? = some t → args[j]? = some v → Value.okWide C.prog W .any base t v) →
      DataW.Whole enc C.prog fn.params.toList s.vars apart W args.toList ds gs before →
      (DataW.weightsEach C.prog (fn.params.toList ++ s.plain.varTypes C.prog) (ds ++ gs)).all (· ≤ reachBytes) = true → X W args → W.ShapedOpen C.prog →
      Calls C.prog f args W fun e W' => ∃ v, e = .returned v ∧ s.post enc C.prog fn apart fresh handsOn again W args v W') :
    ReturnsInHanded a C os f .any (fun w args => (s.pre enc C.prog fn conds apart w args ∧ X w args) ∧ sizedMet enc C.prog fn (OpenSpec.ofChange s) apart w args) (s.post enc C.prog fn apart fresh handsOn again) := by
  refine returnsInHanded_of_calls own started noInit witness ?_
  intro w tape i _ hsh _ hok hpre _
  obtain ⟨_, _, _, fn', hfn', _, _, _, _, hval⟩ := hok
  have e : fn' = fn := Option.some.inj (hfn'.symm.trans hfn)
  subst e
  obtain ⟨⟨⟨ds, gs, before, hw, _⟩, hx⟩, hz⟩ := hpre
  have hw' := DataW.Whole.of_heap (w' := w.forCall tape i) (by rfl) hw
  refine (contract (w.forCall tape i) w.heap.size i.args ds gs before hval hw' (hz.weights hw) (hX _ _ _ (by rfl) hx) hsh).mono fun e W' ⟨v, he, hp⟩ => ?_
  subst he
  exact ChangeSpec.post_blind hp
end Go.Proofs.YtlomcmdbbnbciaaDoor
-- the row of the law AddrReads, out of its pure statement and its walk
namespace Go.Proofs.YtlomcmdbbnbciaaDoor.addrReads
open Go.ChangeShapes Go.WideShapes Go.ChangeAt Go.RowKit Go.Joins
open Go.ChangeMaps (open_string shut_string)
set_option maxRecDepth 100000 in
theorem lifted (os : Os) (started : os.Started) (H : Type) (enc : TypeId × Value → H) :
    ReturnsInHanded {} Tryd.checked os 6 .any (fun w args => (Rows.addrReadsSpec.pre enc Tryd.prog Tryd.f6 [] false w args ∧ laidMetH Tryd.prog listed w) ∧ sizedMet enc Tryd.prog Tryd.f6 (OpenSpec.ofChange Rows.addrReadsSpec) false w args) (Rows.addrReadsSpec.post enc Tryd.prog Tryd.f6 false true false false) := by
  refine lift_both (C := Tryd.checked) (X := fun w _ => laidMetH Tryd.prog listed w) (fun _ _ _ hh h => h.of_heap hh) own started (by kernel_rfl) Tryd.func6
    (ChangeSpec.witness_at (enc := enc) (C := Tryd.checked) (os := os) (X := fun w _ => laidMetH Tryd.prog listed w) false (laidWorld os) #[.string ByteArray.empty] 8 rfl (by kernel_rfl) (by kernel_rfl) (by kernel_rfl) (by kernel_rfl) (by kernel_rfl) (laid_met os _)) ?_
  intro W base args ds gs before hval0 hW _ hL hSh
  have hval : ∀ (j : Nat) t v, Tryd.f6.params[j]? = some t → args[j]? = some v → Value.okWide Tryd.prog W .any base t v := hval0
  have hW' := hW
  obtain ⟨p, q, hA0, hV, rfl, _, _⟩ := hW
  have hA : DataW.TrodAll enc Tryd.prog W 0 (fun _ => true) true Tryd.f6.params.toList args.toList ds p := hA0
  rw [Tryd.params6] at hA hval
  obtain ⟨v0, vs0, d0, ds0, p0, q0, hargs, rfl, rfl, h0, r0⟩ := trodAll_cons hA
  obtain ⟨rfl, rfl, rfl⟩ := trodAll_nil r0
  obtain rfl : args = #[v0] := by cases args; simp_all
  obtain ⟨rfl, rfl⟩ := trodVars_none hV
  have k0 := h0
  have lt0 : ∀ x ∈ p0, x.block < W.heap.size := by obtain ⟨m, hm⟩ := k0; exact DataW.trod_lt m _ _ _ hm
  obtain ⟨a0, rfl, _, _, _⟩ := open_string Tryd.underlying9 (hval 0 9 v0 rfl rfl) h0
  obtain ⟨k, hk⟩ := Pl.AddrReads a0
  refine (Fn.bulletinlaw13_AddrReads.calls k a0 true W hk).mono ?_
  rintro e W' ⟨rfl, bel⟩
  exact ⟨_, rfl, _, _, _, [], _, [], hW', trodAll_mk1 (shut_bool Tryd.underlying4 _), (trodAll_cons_mk (Below.trod laidOut (by kernel_rfl) (of_decide_eq_true (by kernel_rfl)) k0 bel lt0) trodAll_mk0), rfl, bel.frame _, fun h => by cases h⟩
theorem over : Rows.addrReadsRow.holds Tryd.pinned (OpenSpec.ofChange Rows.addrReadsSpec) :=
  OpenClaim.holds_of_wide 6 Tryd.f6 rfl rfl rfl rfl rfl rfl rfl ⟨rfl, rfl, rfl, rfl, rfl⟩ rfl rfl rfl rfl rfl (by kernel_rfl) Tryd.func6 (by kernel_rfl)
    (of_decide_eq_true (by kernel_rfl)) (by unfold Func.isWrapper; first | (rw [if_pos (by decide +kernel)]; kernel_rfl) | (rw [if_neg (by decide +kernel)]; exact ⟨rfl, rfl⟩))
    (fun os started H enc _ => lifted os started H enc)
theorem proved : Rows.AddrReadsSaid := over
#print axioms proved
theorem card : Rows.AddrReadsCardSaid :=
  Claim7.holds_tied_plain_at .later [] [.data, .pinned] true (true, "a3f6bcdc9cb347ffdc7221f102fbc562a39496553b45ea8bedd4c5b8b6bf59b8") false
    proved (fun _ h => by cases h) (by kernel_rfl) (fun _ h => by cases h) addrReads_row_tie rfl ⟨rfl, rfl⟩ (by kernel_rfl) rfl
    (fun f fn hf hfn => by
      obtain rfl : f = 6 := Option.some.inj ((show Tryd.prog.funcNamed "bulletin/bulletinlaw13.AddrReads" = some 6 by kernel_rfl).symm.trans hf) |>.symm
      obtain rfl : fn = Tryd.f6 := (Option.some.inj (Tryd.func6.symm.trans hfn)).symm
      exact ⟨by kernel_rfl, fun j t ht => by
        rw [Tryd.params6] at ht
        have hall : ([9] : List TypeId).all (fun t => !(Tryd.prog.wantsStandIn t)) = true := by kernel_rfl
        have hm : t ∈ ([9] : List TypeId) := by simpa using Array.mem_of_getElem? ht
        have h2 : Tryd.prog.wantsStandIn t = false := by simpa using List.all_eq_true.1 hall t hm
        exact h2⟩)
    (by kernel_rfl)
#print axioms card
end Go.Proofs.YtlomcmdbbnbciaaDoor.addrReads
namespace Go.Proofs.YtlomcmdbbnbciaaDoor
theorem addrReads_holds : Rows.AddrReadsCardSaid := addrReads.card
end Go.Proofs.YtlomcmdbbnbciaaDoor
