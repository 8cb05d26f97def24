/- A part of the proof of this sentence: A post that bears the list's id is refused -/
import Derived.Test.YtcndmhpeolbepaaGreatDoorCRightsLoop4
import Derived.Lib.IndexAny
import Derived.Deep.SlicePairs
import Derived.ProofKit
import Derived.OpenShut
set_option linter.unusedVariables false
set_option linter.unusedSimpArgs false
set_option maxHeartbeats 8000000
open Go.RowKit Go.Proofs.YtcndmhpeolbepaaGreatDoorW.PrintWords Go.Proofs.YtcndmhpeolbepaaGreatDoorW.PrintLast Go.Proofs.YtcndmhpeolbepaaGreatDoorW.PrintMore
namespace Go.Proofs.YtcndmhpeolbepaaGreatDoor.Fn
/-! Layer 14: a mailbox, a group, an item, taken away from the front -/
theorem drop_while (p : Pl.Tok → Bool) : ∀ l : List Pl.Tok, l.drop (l.takeWhile p).length = l.dropWhile p
 | [] => rfl
 | t :: l => by
  rw [List.takeWhile_cons, List.dropWhile_cons]
  cases p t with
  | true => simp only [if_true, List.length_cons, List.drop_succ_cons]; exact drop_while p l
  | false => simp
theorem drop_tail {α : Type} (l : List α) (n : Nat) : l.drop (n + 1) = (l.drop n).tail := by
 rw [List.tail_drop]
theorem address_gives {W0 w : World} {l : List Pl.Tok} {bx : List Pl.BoxL} {nm : ByteArray} (h : RS W0 w l bx) {la : List Pl.Tok} {ba : List Pl.BoxL} {ea : Int} (hA : Pl.addressM (Pl.bs nm) l bx = ((la, ba), ea)) :
  Calls Tryz.prog 204 #[.pointer (some ⟨W0.heap.size, 0, none⟩), .string nm] w fun e w' => e = .returned (.int .i64 ea) ∧ (ea = 0 → RS W0 w' la ba) ∧ Below W0.heap.size W0 w' := by
 have := address_calls W0 w l bx nm h
 rw [hA] at this
 exact this
theorem at_gives {W0 w : World} {l : List Pl.Tok} {bx : List Pl.BoxL} (h : RS W0 w l bx) {c : UInt8} {q : Bool} (hq : Pl.headIs l [c] = q) :
  Calls Tryz.prog 186 #[.pointer (some ⟨W0.heap.size, 0, none⟩), .string ⟨#[c]⟩] w fun e w' => e = .returned (.bool q) ∧ w' = w := by
 have := at_calls W0 w l bx ⟨#[c]⟩ h
 rw [show Pl.bs ⟨#[c]⟩ = [c] from rfl, hq] at this
 exact this
theorem take_gives {W0 w : World} {l : List Pl.Tok} {bx : List Pl.BoxL} (h : RS W0 w l bx) {c : UInt8} {q : Bool} (hq : Pl.headIs l [c] = q) :
  Calls Tryz.prog 156 #[.pointer (some ⟨W0.heap.size, 0, none⟩), .string ⟨#[c]⟩] w fun e w' => e = .returned (.bool q) ∧ RS W0 w' (if q = true then l.tail else l) bx := by
 have := take_calls W0 w l bx ⟨#[c]⟩ h
 rw [show Pl.bs ⟨#[c]⟩ = [c] from rfl, hq] at this
 exact this
theorem follows_gives {W0 w : World} {l : List Pl.Tok} {bx : List Pl.BoxL} (h : RS W0 w l bx) {c : UInt8} {n : Nat} {q : Bool} (hn : (l.takeWhile Pl.wordT).length = n) (hq : Pl.headIs (l.dropWhile Pl.wordT) [c] = q) :
  Calls Tryz.prog 183 #[.pointer (some ⟨W0.heap.size, 0, none⟩), .int .i64 n, .string ⟨#[c]⟩] w fun e w' => e = .returned (.bool q) ∧ w' = w := by
 have := follows_calls W0 w l bx n ⟨#[c]⟩ h
 rw [show Pl.bs ⟨#[c]⟩ = [c] from rfl, ← hn, drop_while, hq] at this
 rw [← hn]
 exact this
theorem words_gives {W0 w : World} {l : List Pl.Tok} {bx : List Pl.BoxL} (h : RS W0 w l bx) {n : Nat} (hn : (l.takeWhile Pl.wordT).length = n) :
  Calls Tryz.prog 182 #[.pointer (some ⟨W0.heap.size, 0, none⟩)] w fun e w' => e = .returned (.tuple #[.int .i64 n, .string (Pl.str (Pl.nameL l))]) ∧ Below w.heap.size w w' := by
 have := words_calls W0 w l bx h
 rw [hn] at this
 exact this
theorem RS.holds {W0 w : World} {l : List Pl.Tok} {bx : List Pl.BoxL} (h : RS W0 w l bx) : ∃ (A : Option Addr) (n c : Nat) (v : Value), w.heap[W0.heap.size]? = some (.cells #[.slice A n c, v] 178 (0, 0)) ∧ n = l.length ∧ n ≤ c ∧ (0 < n → ∃ ad, A = some ad) := by
 obtain ⟨A, c, v, h1, h2, h3, h4⟩ := h.out
 refine ⟨A, l.length, c, v, h1, rfl, h3, fun hp => ?_⟩
 obtain ⟨ad, e, _⟩ := h2.2.2 hp
 exact ⟨ad, e⟩
set_option maxRecDepth 100000 in
theorem mailbox_calls (W0 w : World) (l : List Pl.Tok) (bx : List Pl.BoxL) (h : RS W0 w l bx) :
  Calls Tryz.prog 184 #[.pointer (some ⟨W0.heap.size, 0, none⟩)] w fun e w' => e = .returned (.int .i64 (Pl.mailboxM l bx).2) ∧ ((Pl.mailboxM l bx).2 = 0 → RS W0 w' (Pl.mailboxM l bx).1.1 (Pl.mailboxM l bx).1.2) ∧ Below W0.heap.size W0 w' := by
 obtain ⟨n, hn⟩ : ∃ n, (l.takeWhile Pl.wordT).length = n := ⟨_, rfl⟩
 have hw := hid (words_gives h hn)
 have H := hid h
 have hz := h.small.len
 clear h
 cases hq : Pl.headIs (l.dropWhile Pl.wordT) [60] with
 | false =>
  obtain ⟨⟨⟨la, ba⟩, ea⟩, hA⟩ : ∃ x, Pl.addressM [] l bx = x := ⟨_, rfl⟩
  have hM : Pl.mailboxM l bx = ((la, ba), ea) := by unfold Pl.mailboxM; rw [hq, if_neg (by decide), hA]
  rw [hM]
  have HA := hid hA
  have HN := hid hn
  have HQ := hid hq
  clear hA hM hn hq hz
  go_enter Tryz.func184, Tryz.ntmps184
  go_wp2_with (first
   | (go_at_call 182; refine hw.out.mono ?_; rintro e w1 ⟨rfl, b1⟩; have H1 := hid (H.out.keep b1))
   | (go_at_call 183; refine (follows_gives H1.out HN.out HQ.out).mono ?_; rintro e w2 ⟨rfl, rfl⟩)
   | (go_at_call 204; refine (address_gives (nm := ⟨#[]⟩) H1.out HA.out).mono ?_; rintro e w3 ⟨rfl, hR, hB⟩))
  go_ret
  exact ⟨rfl, hR, hB⟩
 | true =>
  obtain ⟨t, r, hr, ht⟩ := Pl.headIs_ne hq
  have hnl : n + 1 ≤ l.length := by
   have h1 := congrArg List.length (List.takeWhile_append_dropWhile (p := Pl.wordT) (l := l))
   rw [List.length_append, hn, hr, List.length_cons] at h1
   omega
  have hdr : l.drop (n + 1) = (l.dropWhile Pl.wordT).tail := by rw [drop_tail, ← hn, drop_while]
  obtain ⟨⟨⟨la, ba⟩, ea⟩, hA⟩ : ∃ x, Pl.addressM (Pl.nameL l) (l.drop (n + 1)) bx = x := ⟨_, rfl⟩
  have hA2 : Pl.addressM (Pl.bs (Pl.str (Pl.nameL l))) (l.drop (n + 1)) bx = ((la, ba), ea) := by rw [Pl.bs_str]; exact hA
  have hM : Pl.mailboxM l bx = Pl.angleM ((la, ba), ea) := by unfold Pl.mailboxM; rw [hq, if_pos rfl, ← hdr, hA]
  rw [hM]
  have HA := hid hA2
  have HN := hid hn
  have HQ := hid hq
  have HL := hid hnl
  clear hA hA2 hM hn hq hdr hr ht
  obtain ⟨m, hm⟩ : ∃ m, n + 1 = m := ⟨_, rfl⟩
  rw [hm] at HA HL
  have hwr : wrap64 ((n : Int) + 1) = (m : Int) := by rw [Pl.wrap_succ n (by have := HL.out; omega), hm]
  have hm0 : ((0 : Int) ≤ (m : Int)) = True := eq_true (by omega)
  have HZ := hid hz
  have HM := hid hm
  clear hm hz
  by_cases he : ea = 0
  case neg =>
   have ce : (ea != 0) = true := bne_iff_ne.2 he
   have hP : Pl.angleM ((la, ba), ea) = ((la, ba), ea) := by unfold Pl.angleM; rw [if_pos he]
   rw [hP]
   have hq2 : Hid (Pl.headIs la [62] = Pl.headIs la [62]) := hid rfl
   clear hP
   go_enter Tryz.func184, Tryz.ntmps184
   go_wp2_with (first
    | (go_at_call 182; refine hw.out.mono ?_; rintro e w1 ⟨rfl, b1⟩; have H1 := hid (H.out.keep b1); obtain ⟨A, ln, c, v, hb1, hln, hlc, hA1⟩ := H1.out.holds; obtain ⟨ad, rfl⟩ := hA1 (by have := HL.out; have := HM.out; omega); have r0 := (blk_cell hb1 0).trans rfl; have rf0 := blk_frozen hb1 0; have c1 : ((m : Int) ≤ (ln : Int)) = True := eq_true (by have := HL.out; omega); have c2 : ((ln : Int) ≤ (c : Int)) = True := eq_true (by omega); have c3 : ((m : Int) ≤ (c : Int)) = True := eq_true (by have := HL.out; omega); have c4 : (m ≤ ln) = True := eq_true (by have := HL.out; omega); have c5 : (ln ≤ c) = True := eq_true hlc; have c6 : (m ≤ c) = True := eq_true (by have := HL.out; omega); have HBK := hid hb1; clear hln hlc hA1 hb1)
    | (go_at_call 183; refine (follows_gives H1.out HN.out HQ.out).mono ?_; rintro e w2 ⟨rfl, rfl⟩)
    | (go_at_call 204; refine (address_gives (RS.cutW H1.out HBK.out m HL.out _ _ _ (by first | rfl | (simp [*]; done) | (simp [*]; rfl)) (by first | rfl | (simp; done) | omega) (by first | rfl | (simp; done) | omega)) HA.out).mono ?_; rintro e w3 ⟨rfl, hR, hB⟩; have HR3 := hid hR; have HB3 := hid hB; clear hR hB)
    | (go_at_call 156; refine (take_gives (HR3.out (by trivial)) hq2.out).mono ?_; rintro e w4 ⟨rfl, hR4⟩; have HR4 := hid hR4; clear hR4))
   all_goals
    go_ret
    first | exact ⟨rfl, HR3.out, HB3.out⟩ | exact ⟨rfl, HB3.out⟩
  case pos =>
   subst he
   cases hq2 : Pl.headIs la [62] with
   | false =>
    have hP : Pl.angleM ((la, ba), 0) = Pl.failM 130 := by unfold Pl.angleM; rw [if_neg (by simp), hq2]; rfl
    rw [hP]
    replace hq2 := hid hq2
    clear hP
    go_enter Tryz.func184, Tryz.ntmps184
    go_wp2_with (first
     | (go_at_call 182; refine hw.out.mono ?_; rintro e w1 ⟨rfl, b1⟩; have H1 := hid (H.out.keep b1); obtain ⟨A, ln, c, v, hb1, hln, hlc, hA1⟩ := H1.out.holds; obtain ⟨ad, rfl⟩ := hA1 (by have := HL.out; have := HM.out; omega); have r0 := (blk_cell hb1 0).trans rfl; have rf0 := blk_frozen hb1 0; have c1 : ((m : Int) ≤ (ln : Int)) = True := eq_true (by have := HL.out; omega); have c2 : ((ln : Int) ≤ (c : Int)) = True := eq_true (by omega); have c3 : ((m : Int) ≤ (c : Int)) = True := eq_true (by have := HL.out; omega); have c4 : (m ≤ ln) = True := eq_true (by have := HL.out; omega); have c5 : (ln ≤ c) = True := eq_true hlc; have c6 : (m ≤ c) = True := eq_true (by have := HL.out; omega); have HBK := hid hb1; clear hln hlc hA1 hb1)
     | (go_at_call 183; refine (follows_gives H1.out HN.out HQ.out).mono ?_; rintro e w2 ⟨rfl, rfl⟩)
     | (go_at_call 204; refine (address_gives (RS.cutW H1.out HBK.out m HL.out _ _ _ (by first | rfl | (simp [*]; done) | (simp [*]; rfl)) (by first | rfl | (simp; done) | omega) (by first | rfl | (simp; done) | omega)) HA.out).mono ?_; rintro e w3 ⟨rfl, hR, hB⟩; have HR3 := hid hR; have HB3 := hid hB; clear hR hB)
     | (go_at_call 156; refine (take_gives (HR3.out (by trivial)) hq2.out).mono ?_; rintro e w4 ⟨rfl, hR4⟩; have HR4 := hid hR4; clear hR4))
    all_goals
     go_ret
     first | exact ⟨rfl, fun h0 => absurd h0 (by decide), HR4.out.below⟩ | exact ⟨rfl, HR4.out.below⟩
   | true =>
    have hP : Pl.angleM ((la, ba), 0) = ((la.tail, ba), 0) := by unfold Pl.angleM; rw [if_neg (by simp), hq2]; rfl
    rw [hP]
    replace hq2 := hid hq2
    clear hP
    go_enter Tryz.func184, Tryz.ntmps184
    go_wp2_with (first
     | (go_at_call 182; refine hw.out.mono ?_; rintro e w1 ⟨rfl, b1⟩; have H1 := hid (H.out.keep b1); obtain ⟨A, ln, c, v, hb1, hln, hlc, hA1⟩ := H1.out.holds; obtain ⟨ad, rfl⟩ := hA1 (by have := HL.out; have := HM.out; omega); have r0 := (blk_cell hb1 0).trans rfl; have rf0 := blk_frozen hb1 0; have c1 : ((m : Int) ≤ (ln : Int)) = True := eq_true (by have := HL.out; omega); have c2 : ((ln : Int) ≤ (c : Int)) = True := eq_true (by omega); have c3 : ((m : Int) ≤ (c : Int)) = True := eq_true (by have := HL.out; omega); have c4 : (m ≤ ln) = True := eq_true (by have := HL.out; omega); have c5 : (ln ≤ c) = True := eq_true hlc; have c6 : (m ≤ c) = True := eq_true (by have := HL.out; omega); have HBK := hid hb1; clear hln hlc hA1 hb1)
     | (go_at_call 183; refine (follows_gives H1.out HN.out HQ.out).mono ?_; rintro e w2 ⟨rfl, rfl⟩)
     | (go_at_call 204; refine (address_gives (RS.cutW H1.out HBK.out m HL.out _ _ _ (by first | rfl | (simp [*]; done) | (simp [*]; rfl)) (by first | rfl | (simp; done) | omega) (by first | rfl | (simp; done) | omega)) HA.out).mono ?_; rintro e w3 ⟨rfl, hR, hB⟩; have HR3 := hid hR; have HB3 := hid hB; clear hR hB)
     | (go_at_call 156; refine (take_gives (HR3.out (by trivial)) hq2.out).mono ?_; rintro e w4 ⟨rfl, hR4⟩; have HR4 := hid hR4; clear hR4))
    all_goals
     go_ret
     first | exact ⟨rfl, fun _ => HR4.out, HR4.out.below⟩ | exact ⟨rfl, HR4.out, HR4.out.below⟩
theorem take_yes {W0 w : World} {l : List Pl.Tok} {bx : List Pl.BoxL} (h : RS W0 w l bx) {c : UInt8} (hq : Pl.headIs l [c] = true) :
  Calls Tryz.prog 156 #[.pointer (some ⟨W0.heap.size, 0, none⟩), .string ⟨#[c]⟩] w fun e w' => e = .returned (.bool true) ∧ RS W0 w' l.tail bx := take_gives h hq
theorem take_no {W0 w : World} {l : List Pl.Tok} {bx : List Pl.BoxL} (h : RS W0 w l bx) {c : UInt8} (hq : Pl.headIs l [c] = false) :
  Calls Tryz.prog 156 #[.pointer (some ⟨W0.heap.size, 0, none⟩), .string ⟨#[c]⟩] w fun e w' => e = .returned (.bool false) ∧ RS W0 w' l bx := take_gives h hq
theorem mailbox_gives {W0 w : World} {l : List Pl.Tok} {bx : List Pl.BoxL} (h : RS W0 w l bx) {la : List Pl.Tok} {ba : List Pl.BoxL} {ea : Int} (hA : Pl.mailboxM l bx = ((la, ba), ea)) :
  Calls Tryz.prog 184 #[.pointer (some ⟨W0.heap.size, 0, none⟩)] w fun e w' => e = .returned (.int .i64 ea) ∧ (ea = 0 → RS W0 w' la ba) ∧ Below W0.heap.size W0 w' := by
 have := mailbox_calls W0 w l bx h
 rw [hA] at this
 exact this
set_option maxRecDepth 100000 in
theorem group_gives {W0 w : World} {l : List Pl.Tok} {bx : List Pl.BoxL} (h : RS W0 w l bx) {k : Nat} {lx : List Pl.Tok} {bxx : List Pl.BoxL} {ex : Int} (hx : Pl.groupM k l bx = ((lx, bxx), ex)) (hk : l.length < k) :
  Calls Tryz.prog 185 #[.pointer (some ⟨W0.heap.size, 0, none⟩)] w fun e w' => e = .returned (.int .i64 ex) ∧ (ex = 0 → RS W0 w' lx bxx) ∧ Below W0.heap.size W0 w' := by
 have H0 := hid h
 have HX0 := hid hx
 have HK0 := hid hk
 clear h hx hk
 go_enter Tryz.func185, Tryz.ntmps185
 go_wp2
 go_loopg [3] k (fun kq v3 w' => ∃ (l1 : List Pl.Tok) (bx1 : List Pl.BoxL), Hid (Pl.groupM kq l1 bx1 = ((lx, bxx), ex)) ∧ Hid (RS W0 w' l1 bx1) ∧ Hid (l1.length < kq) ∧ Hid (kq ≤ k))
 case atStart => exact ⟨l, bx, HX0, H0, HK0, hid (Nat.le_refl _)⟩
 case round =>
  clear H0 HX0 HK0
  obtain ⟨l1, bx1, HX, H, HL, HK⟩ := hrel
  cases gk with
  | zero => exact absurd HL.out (by omega)
  | succ k1 =>
   have hX := HX.out
   clear HX
   rw [Pl.groupM] at hX
   cases c1 : Pl.headIs l1 [59] with
   | true =>
    rw [c1, if_pos rfl] at hX
    simp only [Prod.mk.injEq] at hX
    obtain ⟨⟨rfl, rfl⟩, rfl⟩ := hX
    have C1 := hid c1
    clear c1
    go_wp2_with (first
     | (go_at_call 156; refine (take_yes H.out (c := 59) C1.out).mono ?_; rintro e w1 ⟨rfl, h_⟩; have H1 := hid h_; clear h_))
    go_ret
    first | exact ⟨rfl, fun _ => H1.out, H1.out.below⟩ | exact ⟨rfl, H1.out, H1.out.below⟩
   | false =>
    rw [c1, if_neg (by decide)] at hX
    have C1 := hid c1
    clear c1
    obtain ⟨⟨⟨l2, b2⟩, e2⟩, hA⟩ : ∃ x, Pl.mailboxM l1 bx1 = x := ⟨_, rfl⟩
    rw [hA] at hX
    have HA := hid hA
    clear hA
    by_cases he : e2 = 0
    case neg =>
     rw [if_pos he] at hX
     simp only [Prod.mk.injEq] at hX
     obtain ⟨⟨rfl, rfl⟩, rfl⟩ := hX
     have ce : (e2 != 0) = true := bne_iff_ne.2 he
     go_wp2_with (first
      | (go_at_call 156; refine (take_no H.out (c := 59) C1.out).mono ?_; rintro e w1 ⟨rfl, h_⟩; have H1 := hid h_; clear h_)
      | (go_at_call 184; refine (mailbox_gives H1.out HA.out).mono ?_; rintro e w2 ⟨rfl, h2, b2_⟩; have H2 := hid h2; have B2 := hid b2_; clear h2 b2_))
     go_ret
     first | exact ⟨rfl, H2.out, B2.out⟩ | exact ⟨rfl, B2.out⟩
    case pos =>
     subst he
     rw [if_neg (by simp)] at hX
     obtain ⟨_, _, hlt, _⟩ := Pl.mailbox_more HA.out
     have HLT := hid hlt
     clear hlt
     cases c3 : Pl.headIs l2 [59] with
     | true =>
      rw [if_pos c3] at hX
      have C3 := hid c3
      have HX2 := hid hX
      clear c3 hX
      go_wp2_with (first
       | (go_at_call 156; refine (take_no H.out (c := 59) C1.out).mono ?_; rintro e w1 ⟨rfl, h_⟩; have H1 := hid h_; clear h_)
       | (go_at_call 184; refine (mailbox_gives H1.out HA.out).mono ?_; rintro e w2 ⟨rfl, h2, b2_⟩; have H2 := hid h2; have B2 := hid b2_; clear h2 b2_)
       | (go_at_call 186; refine (at_gives (H2.out (by trivial)) (c := 59) C3.out).mono ?_; rintro e w_ ⟨rfl, rfl⟩))
      go_roundg k1
      case measure => have := HK.out; omega
      case rel => exact ⟨l2, b2, HX2, hid (H2.out (by trivial)), hid (by have := HL.out; have := HLT.out; omega), hid (by have := HK.out; omega)⟩
     | false =>
      rw [if_neg (show ¬ Pl.headIs l2 [59] = true by rw [c3]; decide)] at hX
      have C3 := hid c3
      clear c3
      cases c4 : Pl.headIs l2 [44] with
      | false =>
       rw [if_neg (show ¬ (Pl.headIs l2 [44] = true ∧ Pl.headIs l2.tail [59] = false) by rw [c4]; simp)] at hX
       have C4 := hid c4
       clear c4
       simp only [Pl.failM, Prod.mk.injEq] at hX
       obtain ⟨⟨rfl, rfl⟩, rfl⟩ := hX
       go_wp2_with (first
        | (go_at_call 156; refine (take_no (H2.out (by trivial)) (c := 44) C4.out).mono ?_; rintro e w4 ⟨rfl, h_⟩; have H4 := hid h_; clear h_)
        | (go_at_call 156; refine (take_no H.out (c := 59) C1.out).mono ?_; rintro e w1 ⟨rfl, h_⟩; have H1 := hid h_; clear h_)
        | (go_at_call 184; refine (mailbox_gives H1.out HA.out).mono ?_; rintro e w2 ⟨rfl, h2, b2_⟩; have H2 := hid h2; have B2 := hid b2_; clear h2 b2_)
        | (go_at_call 186; refine (at_gives (H2.out (by trivial)) (c := 59) C3.out).mono ?_; rintro e w_ ⟨rfl, rfl⟩))
       go_ret
       first | exact ⟨rfl, fun h0 => absurd h0 (by decide), H4.out.below⟩ | exact ⟨rfl, H4.out.below⟩
      | true =>
       have C4 := hid c4
       cases c5 : Pl.headIs l2.tail [59] with
       | true =>
        rw [if_neg (show ¬ (Pl.headIs l2 [44] = true ∧ Pl.headIs l2.tail [59] = false) by rw [c5]; simp)] at hX
        have C5 := hid c5
        clear c4 c5
        simp only [Pl.failM, Prod.mk.injEq] at hX
        obtain ⟨⟨rfl, rfl⟩, rfl⟩ := hX
        go_wp2_with (first
         | (go_at_call 156; refine (take_yes (H2.out (by trivial)) (c := 44) C4.out).mono ?_; rintro e w4 ⟨rfl, h_⟩; have H4 := hid h_; clear h_)
         | (go_at_call 186; refine (at_gives H4.out (c := 59) C5.out).mono ?_; rintro e w_ ⟨rfl, rfl⟩)
         | (go_at_call 156; refine (take_no H.out (c := 59) C1.out).mono ?_; rintro e w1 ⟨rfl, h_⟩; have H1 := hid h_; clear h_)
         | (go_at_call 184; refine (mailbox_gives H1.out HA.out).mono ?_; rintro e w2 ⟨rfl, h2, b2_⟩; have H2 := hid h2; have B2 := hid b2_; clear h2 b2_)
         | (go_at_call 186; refine (at_gives (H2.out (by trivial)) (c := 59) C3.out).mono ?_; rintro e w_ ⟨rfl, rfl⟩))
        go_ret
        first | exact ⟨rfl, fun h0 => absurd h0 (by decide), H4.out.below⟩ | exact ⟨rfl, H4.out.below⟩
       | false =>
        rw [if_pos (show Pl.headIs l2 [44] = true ∧ Pl.headIs l2.tail [59] = false from ⟨c4, c5⟩)] at hX
        have C5 := hid c5
        have HX2 := hid hX
        clear c4 c5 hX
        go_wp2_with (first
         | (go_at_call 156; refine (take_yes (H2.out (by trivial)) (c := 44) C4.out).mono ?_; rintro e w4 ⟨rfl, h_⟩; have H4 := hid h_; clear h_)
         | (go_at_call 186; refine (at_gives H4.out (c := 59) C5.out).mono ?_; rintro e w_ ⟨rfl, rfl⟩)
         | (go_at_call 156; refine (take_no H.out (c := 59) C1.out).mono ?_; rintro e w1 ⟨rfl, h_⟩; have H1 := hid h_; clear h_)
         | (go_at_call 184; refine (mailbox_gives H1.out HA.out).mono ?_; rintro e w2 ⟨rfl, h2, b2_⟩; have H2 := hid h2; have B2 := hid b2_; clear h2 b2_)
         | (go_at_call 186; refine (at_gives (H2.out (by trivial)) (c := 59) C3.out).mono ?_; rintro e w_ ⟨rfl, rfl⟩))
        go_roundg k1
        case measure => have := HK.out; omega
        case rel => exact ⟨l2.tail, b2, HX2, H4, hid (by rw [List.length_tail]; have := HL.out; have := HLT.out; omega), hid (by have := HK.out; omega)⟩
set_option maxRecDepth 100000 in
theorem item_gives {W0 w : World} {l : List Pl.Tok} {bx : List Pl.BoxL} (h : RS W0 w l bx) {lx : List Pl.Tok} {bxx : List Pl.BoxL} {ex : Int} (hx : Pl.itemM l bx = ((lx, bxx), ex)) :
  Calls Tryz.prog 155 #[.pointer (some ⟨W0.heap.size, 0, none⟩)] w fun e w' => e = .returned (.int .i64 ex) ∧ (ex = 0 → RS W0 w' lx bxx) ∧ Below W0.heap.size W0 w' := by
 obtain ⟨n, hn⟩ : ∃ n, (l.takeWhile Pl.wordT).length = n := ⟨_, rfl⟩
 have hw := hid (words_gives h hn)
 have H := hid h
 have hz := h.small.len
 clear h
 unfold Pl.itemM at hx
 by_cases hn0 : n = 0
 case pos =>
  have hnil : l.takeWhile Pl.wordT = [] := List.eq_nil_of_length_eq_zero (by rw [hn]; exact hn0)
  rw [if_neg (fun q => q.1 hnil)] at hx
  have HA := hid hx
  subst hn0
  clear hx hnil hn hz
  go_enter Tryz.func155, Tryz.ntmps155
  go_wp2_with (first
   | (go_at_call 182; refine hw.out.mono ?_; rintro e w1 ⟨rfl, b1⟩; have H1 := hid (H.out.keep b1); clear b1)
   | (go_at_call 184; refine (mailbox_gives H1.out HA.out).mono ?_; rintro e w3 ⟨rfl, hR, hB⟩))
  go_ret
  exact ⟨rfl, hR, hB⟩
 case neg =>
  have hne : l.takeWhile Pl.wordT ≠ [] := fun q => hn0 (by rw [← hn, q]; rfl)
  have cn1 : ((n : Int) == 0) = false := beq_eq_false_iff_ne.2 (by omega)
  have cn2 : (n == 0) = false := beq_eq_false_iff_ne.2 hn0
  cases hq : Pl.headIs (l.dropWhile Pl.wordT) [58] with
  | false =>
   rw [if_neg (fun q => by rw [hq] at q; exact absurd q.2 (by decide))] at hx
   have HA := hid hx
   have HN := hid hn
   have HQ := hid hq
   clear hx hn hq hz hne
   go_enter Tryz.func155, Tryz.ntmps155
   go_wp2_with (first
    | (go_at_call 183; refine (follows_gives H1.out HN.out HQ.out).mono ?_; rintro e w2 ⟨rfl, rfl⟩)
    | (go_at_call 182; refine hw.out.mono ?_; rintro e w1 ⟨rfl, b1⟩; have H1 := hid (H.out.keep b1); clear b1)
    | (go_at_call 184; refine (mailbox_gives H1.out HA.out).mono ?_; rintro e w3 ⟨rfl, hR, hB⟩))
   go_ret
   exact ⟨rfl, hR, hB⟩
  | true =>
   rw [if_pos ⟨hne, hq⟩] at hx
   obtain ⟨t, r, hr, ht⟩ := Pl.headIs_ne hq
   have hnl : n + 1 ≤ l.length := by
    have h1 := congrArg List.length (List.takeWhile_append_dropWhile (p := Pl.wordT) (l := l))
    rw [List.length_append, hn, hr, List.length_cons] at h1
    omega
   have hdr : l.drop (n + 1) = (l.dropWhile Pl.wordT).tail := by rw [drop_tail, ← hn, drop_while]
   rw [← hdr] at hx
   have HA := hid hx
   have HN := hid hn
   have HQ := hid hq
   have HL := hid hnl
   clear hx hn hq hdr hr ht hne
   obtain ⟨m, hm⟩ : ∃ m, n + 1 = m := ⟨_, rfl⟩
   rw [hm] at HA HL
   have hwr : wrap64 ((n : Int) + 1) = (m : Int) := by rw [Pl.wrap_succ n (by have := HL.out; omega), hm]
   have hm0 : ((0 : Int) ≤ (m : Int)) = True := eq_true (by omega)
   have HZ := hid hz
   have HM := hid hm
   clear hm hz hnl
   go_enter Tryz.func155, Tryz.ntmps155
   go_wp2_with (first
    | (go_at_call 183; refine (follows_gives H1.out HN.out HQ.out).mono ?_; rintro e w2 ⟨rfl, rfl⟩)
    | (go_at_call 182; refine hw.out.mono ?_; rintro e w1 ⟨rfl, b1⟩; have H1 := hid (H.out.keep b1); obtain ⟨A, ln, c, v, hb1, hln, hlc, hA1⟩ := H1.out.holds; obtain ⟨ad, rfl⟩ := hA1 (by have := HL.out; have := HM.out; omega); have r0 := (blk_cell hb1 0).trans rfl; have rf0 := blk_frozen hb1 0; have c1 : ((m : Int) ≤ (ln : Int)) = True := eq_true (by have := HL.out; omega); have c2 : ((ln : Int) ≤ (c : Int)) = True := eq_true (by omega); have c3 : ((m : Int) ≤ (c : Int)) = True := eq_true (by have := HL.out; omega); have c4 : (m ≤ ln) = True := eq_true (by have := HL.out; omega); have c5 : (ln ≤ c) = True := eq_true hlc; have c6 : (m ≤ c) = True := eq_true (by have := HL.out; omega); have HBK := hid hb1; clear hln hlc hA1 hb1)
    | (go_at_call 185; refine (group_gives (RS.cutW H1.out HBK.out m HL.out _ _ _ (by first | rfl | (simp [*]; done) | (simp [*]; rfl)) (by first | rfl | (simp; done) | omega) (by first | rfl | (simp; done) | omega)) HA.out (Nat.lt_succ_self _)).mono ?_; rintro e w3 ⟨rfl, hR, hB⟩))
   all_goals
    go_ret
    exact ⟨rfl, hR, hB⟩
theorem RS.start {W : World} {l : List Pl.Tok} {A : Option Addr} {c : Nat} (hC : Kd.C k194 W A l.length (l.map Pl.tok142)) (hc : l.length ≤ c) (hS : Small l) (hG : Glob W) :
  RS W (W.alloc (.cells #[.slice A l.length c, .slice none 0 0] 178)) l [] :=
 ⟨⟨A, c, .slice none 0 0, blk_new W _, hC, hc, Kd.R_nil _ _ _ _ _⟩, (Below.refl _ _).alloc (Nat.le_refl _) _, hS, by simp, hG⟩
/-! Layer 14: mbx.Read -/
def mbx_Read.f (a0 : ByteArray) : Option (List S91 × Int) := if a0.size ≤ 50000 then some ((Pl.readL (Pl.bs a0)).1.map toBox, (Pl.readL (Pl.bs a0)).2) else none
theorem comma_gives {W0 w : World} {l : List Pl.Tok} {bx : List Pl.BoxL} (h : RS W0 w l bx) {q : Bool} (hq : Pl.headIs l [44] = q) :
  Calls Tryz.prog 156 #[.pointer (some ⟨W0.heap.size, 0, none⟩), .string ⟨#[44]⟩] w fun e w' => e = .returned (.bool q) ∧ (q = true → RS W0 w' l.tail bx) ∧ Below W0.heap.size W0 w' := by
 refine (take_gives h hq).mono ?_
 rintro e w' ⟨rfl, h1⟩
 exact ⟨rfl, fun hq => by rw [if_pos hq] at h1; exact h1, h1.below⟩
set_option maxRecDepth 100000 in
theorem mbx_Read.calls (a0 : ByteArray) (r1 : List S91) (r2 : Int) (w : World) (hG : Glob w) (h : mbx_Read.f a0 = some (r1, r2)) :
  Calls Tryz.prog 128 #[.string a0] w fun e w' => ∃ v0_ : Value, e = .returned (.tuple #[v0_, .int .i64 r2]) ∧ Kd.R k91 91 w' w.heap.size (fun _ => True) v0_ r1 ∧ Below w.heap.size w w' := by
 unfold mbx_Read.f at h
 by_cases hs : a0.size ≤ 50000
 case neg => rw [if_neg hs] at h; exact absurd h (by simp)
 rw [if_pos hs] at h
 simp only [Option.some.injEq, Prod.mk.injEq] at h
 obtain ⟨hr1, hr2⟩ := h
 have hsc := Pl.lexScan_is a0 (by omega) (4 * a0.size + 20) (Nat.le_refl _)
 have hbd := Pl.scanL_bound (Pl.bs a0)
 have hok := Pl.scan_ok (Pl.bs a0).length [] .out (Pl.bs a0) (fun x hx => by cases hx)
 rw [show Pl.scan (Pl.bs a0).length [] .out (Pl.bs a0) = Pl.scanL [] .out (Pl.bs a0) from rfl] at hok
 obtain ⟨⟨T, e0⟩, hT⟩ : ∃ x, Pl.scanL [] .out (Pl.bs a0) = x := ⟨_, rfl⟩
 unfold Pl.readL at hr1 hr2
 rw [hT] at hr1 hr2 hsc hbd hok
 rw [Pl.bs_length] at hbd
 have hscan := hid (lex_Scan.calls _ a0 _ _ w hsc)
 have hS : Small T := ⟨by have h1 : T.length ≤ a0.size := hbd.1; omega, by have h1 : (Pl.cat T).length ≤ a0.size := hbd.2; omega, hok⟩
 clear hsc hok hT
 by_cases he : e0 = 0
 case neg =>
  rw [if_pos he] at hr1 hr2
  simp only [List.map_nil] at hr1 hr2
  subst hr1 hr2
  have ce : (e0 != 0) = true := bne_iff_ne.2 he
  clear hS hbd
  go_enter Tryz.func128, Tryz.ntmps128
  go_wp2_with (go_at_call 154; refine hscan.out.mono ?_; rintro e w1 ⟨v0, rfl, hR, b1⟩)
  go_ret2
  exact ⟨_, rfl, Kd.R_nil _ _ _ _ _, b1⟩
 case pos =>
  subst he
  rw [if_neg (by simp)] at hr1 hr2
  obtain ⟨⟨bf, ef⟩, hX⟩ : ∃ x, Pl.readM (T.length + 1) T [] = x := ⟨_, rfl⟩
  unfold Pl.readT at hr1 hr2
  rw [hX] at hr1 hr2
  simp only [] at hr1 hr2
  subst hr1 hr2
  have HX0 := hid hX
  have HS := hid hS
  have HG0 := hid hG
  clear hX hS hbd hG
  go_enter Tryz.func128, Tryz.ntmps128
  go_wp2_with (go_at_call 154; refine hscan.out.mono ?_; rintro e w1 ⟨v0, rfl, hR, b1⟩; obtain ⟨A, c, rfl⟩ := Kd.R_slice hR; have HR := hid hR; have HB1 := hid b1; obtain ⟨n, hn⟩ : ∃ n, (T.map Pl.tok142).length = n := ⟨_, rfl⟩; rw [hn] at HR ⊢; have HN := hid hn; clear hR b1 hn)
  go_loopg [7] (T.length + 1) (fun kq v7 w' => ∃ (l1 : List Pl.Tok) (bx1 : List Pl.BoxL), Hid (Pl.readM kq l1 bx1 = (bf, ef)) ∧ Hid (RS w1 w' l1 bx1) ∧ Hid (l1.length < kq) ∧ Hid (kq ≤ T.length + 1))
  case atStart =>
   refine ⟨T, [], HX0, hid ?_, hid (Nat.lt_succ_self _), hid (Nat.le_refl _)⟩
   obtain ⟨h1, h2, h3⟩ := Kd.R_reads' HR.out
   have hn : n = T.length := by rw [← HN.out, List.length_map]
   subst hn
   rw [List.length_map] at h3
   exact RS.start h3 h2 HS.out (HG0.out.below HB1.out)
  case round =>
   clear HX0 HR HN hscan HS
   obtain ⟨l1, bx1, HX, H, HL, HK⟩ := hrel
   cases gk with
   | zero => exact absurd HL.out (by omega)
   | succ k1 =>
    have hX := HX.out
    clear HX
    rw [Pl.readM] at hX
    obtain ⟨⟨⟨l2, b2⟩, e2⟩, hA⟩ : ∃ x, Pl.itemM l1 bx1 = x := ⟨_, rfl⟩
    rw [hA] at hX
    have HA := hid hA
    clear hA
    by_cases he : e2 = 0
    case neg =>
     rw [if_pos he] at hX
     simp only [Prod.mk.injEq] at hX
     obtain ⟨rfl, rfl⟩ := hX
     have ce : (e2 != 0) = true := bne_iff_ne.2 he
     go_wp2_with (go_at_call 155; refine (item_gives H.out HA.out).mono ?_; rintro e w2 ⟨rfl, h2, b2_⟩; have B2 := hid b2_; clear h2 b2_)
     go_ret2
     exact ⟨_, rfl, Kd.R_nil _ _ _ _ _, HB1.out.trans (B2.out.mono HB1.out.size)⟩
    case pos =>
     subst he
     rw [if_neg (by simp)] at hX
     obtain ⟨_, _, hlt, _⟩ := Pl.item_more HA.out
     have HLT := hid hlt
     clear hlt
     by_cases c3 : l2 = []
     case pos =>
      rw [if_pos c3] at hX
      simp only [Prod.mk.injEq] at hX
      obtain ⟨rfl, rfl⟩ := hX
      subst c3
      go_wp2_with (go_at_call 155; refine (item_gives H.out HA.out).mono ?_; rintro e w2 ⟨rfl, h2, b2_⟩; have H2 := hid (h2 (by trivial)); clear h2 b2_; obtain ⟨A2, ln, c2, v2, hb2, hln, hlc, hA1⟩ := H2.out.holds; rw [List.length_nil] at hln; subst hln; have HBK := hid hb2; have r0 := (blk_cell hb2 0).trans rfl; have r1 := (blk_cell hb2 1).trans rfl; clear hb2 hlc hA1)
      go_ret2
      exact ⟨_, rfl, Kd.R_lower (H2.out.boxes HBK.out) (Nat.le_trans HB1.out.size (Nat.le_succ _)), HB1.out.trans (H2.out.below.mono HB1.out.size)⟩
     case neg =>
      rw [if_neg c3] at hX
      cases c4 : Pl.headIs l2 [44] with
      | false =>
       rw [if_neg (show ¬ Pl.headIs l2 [44] = true by rw [c4]; decide)] at hX
       simp only [Prod.mk.injEq] at hX
       obtain ⟨rfl, rfl⟩ := hX
       have C4 := hid c4
       have C3 := hid c3
       clear c4 c3
       go_wp2_with (first
        | (go_at_call 155; refine (item_gives H.out HA.out).mono ?_; rintro e w2 ⟨rfl, h2, b2_⟩; have H2 := hid (h2 (by trivial)); clear h2 b2_; obtain ⟨A2, ln, c2, v2, hb2, hln, hlc, hA1⟩ := H2.out.holds; have hl0 : ln ≠ 0 := (by rw [hln]; exact fun q => C3.out (List.eq_nil_of_length_eq_zero q)); have cl1 : ((ln : Int) == 0) = false := beq_eq_false_iff_ne.2 (by omega); have cl2 : (ln == 0) = false := beq_eq_false_iff_ne.2 hl0; have r0 := (blk_cell hb2 0).trans rfl; clear hb2 hlc hA1 hln hl0)
        | (go_at_call 156; refine (comma_gives H2.out C4.out).mono ?_; rintro e w3 ⟨rfl, h3, b3⟩; have B3 := hid b3; clear h3 b3))
       go_ret2
       exact ⟨_, rfl, Kd.R_nil _ _ _ _ _, HB1.out.trans (B3.out.mono HB1.out.size)⟩
      | true =>
       rw [if_pos c4] at hX
       have C4 := hid c4
       have C3 := hid c3
       have HX2 := hid hX
       clear c4 c3 hX
       go_wp2_with (first
        | (go_at_call 155; refine (item_gives H.out HA.out).mono ?_; rintro e w2 ⟨rfl, h2, b2_⟩; have H2 := hid (h2 (by trivial)); clear h2 b2_; obtain ⟨A2, ln, c2, v2, hb2, hln, hlc, hA1⟩ := H2.out.holds; have hl0 : ln ≠ 0 := (by rw [hln]; exact fun q => C3.out (List.eq_nil_of_length_eq_zero q)); have cl1 : ((ln : Int) == 0) = false := beq_eq_false_iff_ne.2 (by omega); have cl2 : (ln == 0) = false := beq_eq_false_iff_ne.2 hl0; have r0 := (blk_cell hb2 0).trans rfl; clear hb2 hlc hA1 hln hl0)
        | (go_at_call 156; refine (comma_gives H2.out C4.out).mono ?_; rintro e w3 ⟨rfl, h3, b3⟩; have H3 := hid (h3 (by trivial)); clear h3 b3))
       go_roundg k1
       case measure => have := HK.out; omega
       case rel => exact ⟨l2.tail, b2, HX2, H3, hid (by rw [List.length_tail]; have := HL.out; have := HLT.out; omega), hid (by have := HK.out; omega)⟩
end Go.Proofs.YtcndmhpeolbepaaGreatDoor.Fn
namespace Go.Proofs.YtcndmhpeolbepaaGreatDoor.Fn
attribute [local go_sem] max2_int min2_int max_two min_two max_three min_three max_four min_four
def mbx_One.f (a0 : ByteArray) : Option (ByteArray × ByteArray × ByteArray × Int) := (mbx_Read.f a0).bind fun bt537 => (if bt537.2 = 0 then (if (bt537.1.length : Int) = 1 then (if 0 < (bt537.1.length : Int) then (some ((rd_T91 bt537.1 0).f0, (rd_T91 bt537.1 0).f1.f0, (rd_T91 bt537.1 0).f1.f1, 0)) else (none)) else (some ((⟨#[]⟩ : ByteArray), (⟨#[]⟩ : ByteArray), (⟨#[]⟩ : ByteArray), 130))) else (some ((⟨#[]⟩ : ByteArray), (⟨#[]⟩ : ByteArray), (⟨#[]⟩ : ByteArray), bt537.2)))
set_option maxRecDepth 100000 in
theorem mbx_One.calls (a0 : ByteArray) (r1 : ByteArray) (r2 : ByteArray) (r3 : ByteArray) (r4 : Int) (w : World) (hG : Glob w) (h : mbx_One.f a0 = some (r1, r2, r3, r4)) :
  Calls Tryz.prog 91 #[.string a0] w fun e w' => e = .returned (.tuple #[.agg #[.string r1, .string r2, .string r3], .int .i64 r4]) ∧ Below w.heap.size w w' := by
 have hu91 := Tryz.underlying91; have HB := Aside0.mk (Below.refl w.heap.size w); have H : ((mbx_Read.f a0).bind fun bt537 => (if bt537.2 = 0 then (if (bt537.1.length : Int) = 1 then (if 0 < (bt537.1.length : Int) then (some ((rd_T91 bt537.1 0).f0, (rd_T91 bt537.1 0).f1.f0, (rd_T91 bt537.1 0).f1.f1, 0)) else (none)) else (some ((⟨#[]⟩ : ByteArray), (⟨#[]⟩ : ByteArray), (⟨#[]⟩ : ByteArray), 130))) else (some ((⟨#[]⟩ : ByteArray), (⟨#[]⟩ : ByteArray), (⟨#[]⟩ : ByteArray), bt537.2)))) = some (r1, r2, r3, r4) := h; clear h; replace H := Option.bind_eq_some_iff.mp H; obtain ⟨⟨t537, t538⟩, A20, H⟩ := H; replace H : (if t538 = 0 then (if (t537.length : Int) = 1 then (if 0 < (t537.length : Int) then (some ((rd_T91 t537 0).f0, (rd_T91 t537 0).f1.f0, (rd_T91 t537 0).f1.f1, 0)) else (none)) else (some ((⟨#[]⟩ : ByteArray), (⟨#[]⟩ : ByteArray), (⟨#[]⟩ : ByteArray), 130))) else (some ((⟨#[]⟩ : ByteArray), (⟨#[]⟩ : ByteArray), (⟨#[]⟩ : ByteArray), t538))) = some (r1, r2, r3, r4) := H; have A2 := Aside0.mk A20; clear A20
 by_cases c3 : t538 = 0
 ·rw [if_pos c3] at H; have c3b0 := beq_iff_eq.mpr c3; have c3b1 := bne_eq_false_iff_eq.mpr c3; clear c3
  by_cases c4 : (t537.length : Int) = 1
  ·rw [if_pos c4] at H; have c4b0 := beq_iff_eq.mpr c4; have c4b1 := bne_eq_false_iff_eq.mpr c4; clear c4
   by_cases c5 : 0 < (t537.length : Int)
   ·rw [if_pos c5] at H; have c5b0 := decide_eq_true c5; have c5b1 : decide (0 < t537.length) = true := decide_eq_true (by omega); clear c5; simp only [Option.some.injEq, Prod.mk.injEq] at H; obtain ⟨rfl, rfl, rfl, rfl⟩ := H
    go_enter Tryz.func91, Tryz.ntmps91
    go_wp2_with (first | ((with_reducible refine gate_dst (N := 2) rfl ?_); refine box_event ?hg (N := 2) ?hd (cs := #[.string (⟨#[]⟩ : ByteArray), .string (⟨#[]⟩ : ByteArray), .string (⟨#[]⟩ : ByteArray)]) (t := 91) ?hr ?_; (case hd => rfl); (case hg => rfl); (case hr => first | (go_simp; done) | (go_simp; rfl)); intro gb536 hg w6 hbox hb; have n0_ := Aside0.mk (below_step bw hb); have n1_ := Aside0.mk (hbox); have n2_ := Aside0.mk ((by rw [hg]; exact (below_size bw) : w.heap.size ≤ gb536)); have n3_ := Aside0.mk ((by rw [hg]; exact (below_size bw) : w.heap.size ≤ gb536)); clear HB; have HB := n0_; have BK536 := n1_; have GW536 := n2_; have GE536 := n3_; clear n0_ n1_ n2_ n3_; clear hb hbox hg) | ((with_reducible refine gate_callee (f := 128) rfl ?_); refine goesL_ (some 8) rfl rfl Tryz.func128 (by kernel_rfl) rfl #[.string a0] rfl am ?_; (with_reducible refine (mbx_Read.calls (hG := by first | exact hG | exact Glob.below hG (by first | exact HB.out | (repeat (first | (with_reducible first | exact HB.out | apply below_alloc | apply pw_below_drewN | apply below_drew1 | refine below_set ?_ GE536.out) | exact HB.out))) | exact Glob.drawn hG (d0)) a0 t537 t538 _ A2.out).mono ?_); rintro e w7 ⟨v539, rfl, ho0, hb⟩; refine ⟨_, rfl, ?_⟩; have n0_ := Aside0.mk (Kd.R_lower (Kd.R_newB ho0 (g := gb536) (o := .cells #[.string (⟨#[]⟩ : ByteArray), .string (⟨#[]⟩ : ByteArray), .string (⟨#[]⟩ : ByteArray)] 91 (0, 0)) bk) (below_size bwS)); have n1_ := Aside0.mk (blk_below (g := gb536) (o := .cells #[.string (⟨#[]⟩ : ByteArray), .string (⟨#[]⟩ : ByteArray), .string (⟨#[]⟩ : ByteArray)] 91 (0, 0)) bk hb); have n2_ := Aside0.mk (below_step bwS hb); clear BK536; clear HB; have HO540 := n0_; have BK536 := n1_; have HB := n2_; clear n0_ n1_ n2_; (try clear hb); (try clear hb2); (try clear hk); (try clear hi); (try clear ho0); obtain ⟨Ao8, co8, eo8⟩ := Kd.R_slice HO540.out; subst eo8; have p541 : 0 ≤ (0 : Int) := (by omega); have q541 : 0 < (t537.length : Int) := od; obtain ⟨ad541, e541, hx541_0, hx541_1, hx541_2⟩ := at_T91 (Kd.R_reads' HO540.out).2.2 0 p541 q541; cases e541; have qi541 : (0 < t537.length) = True := eq_true (by omega); (try rw [show ((0 : Int)).toNat = 0 from rfl] at hx541_0); (try rw [show 0 * 3 = 0 from rfl] at hx541_0); (try rw [Addr.add_zero'] at hx541_0); (try rw [show ((0 : Int)).toNat = 0 from rfl] at hx541_1); (try rw [show 0 * 3 = 0 from rfl] at hx541_1); (try rw [Addr.add_zero'] at hx541_1); (try rw [show ((0 : Int)).toNat = 0 from rfl] at hx541_2); (try rw [show 0 * 3 = 0 from rfl] at hx541_2); (try rw [Addr.add_zero'] at hx541_2); replace p541 := eq_true p541; replace q541 := eq_true q541; obtain ⟨hcz9_0, hcz9_1, hcz9_2⟩ := ce3 BK536; obtain ⟨hfz9_0, hfz9_1, hfz9_2⟩ := fz3 BK536))
    refine bodyPost_ret (results_ct rfl _ _ gb536 91 #[.string ((rd_T91 t537 0).f0), .string ((rd_T91 t537 0).f1.f0), .string ((rd_T91 t537 0).f1.f1)] (0, 0) _ rfl (by (with_reducible repeat (first | refine blk_drewN ?_ _ | refine blk_drew ?_ | refine blk_alloc ?_ _)); refine blk_put (cs := #[.string ((rd_T91 t537 0).f0), .string ((rd_T91 t537 0).f1.f0), .string (⟨#[]⟩ : ByteArray)]) ?_ 2 _ rfl; (with_reducible repeat (first | refine blk_drewN ?_ _ | refine blk_drew ?_ | refine blk_alloc ?_ _)); refine blk_put (cs := #[.string ((rd_T91 t537 0).f0), .string (⟨#[]⟩ : ByteArray), .string (⟨#[]⟩ : ByteArray)]) ?_ 1 _ rfl; (with_reducible repeat (first | refine blk_drewN ?_ _ | refine blk_drew ?_ | refine blk_alloc ?_ _)); exact blk_put (cs := #[.string (⟨#[]⟩ : ByteArray), .string (⟨#[]⟩ : ByteArray), .string (⟨#[]⟩ : ByteArray)]) bk 0 _ rfl) Tryz.underlying91 rfl (by kernel_rfl)) rfl ?_; exact ⟨ew, bwS⟩
   rw [if_neg c5] at H; exact absurd H (by simp)
  rw [if_neg c4] at H; have c4b0 := beq_eq_false_iff_ne.mpr c4; have c4b1 := bne_iff_ne.mpr c4; simp only [Option.some.injEq, Prod.mk.injEq] at H; obtain ⟨rfl, rfl, rfl, rfl⟩ := H
  go_enter Tryz.func91, Tryz.ntmps91
  go_wp2_with (first | ((with_reducible refine gate_dst (N := 2) rfl ?_); refine box_event ?hg (N := 2) ?hd (cs := #[.string (⟨#[]⟩ : ByteArray), .string (⟨#[]⟩ : ByteArray), .string (⟨#[]⟩ : ByteArray)]) (t := 91) ?hr ?_; (case hd => rfl); (case hg => rfl); (case hr => first | (go_simp; done) | (go_simp; rfl)); intro gb536 hg w10 hbox hb; have n0_ := Aside0.mk (below_step bw hb); have n1_ := Aside0.mk (hbox); have n2_ := Aside0.mk ((by rw [hg]; exact (below_size bw) : w.heap.size ≤ gb536)); have n3_ := Aside0.mk ((by rw [hg]; exact (below_size bw) : w.heap.size ≤ gb536)); clear HB; have HB := n0_; have BK536 := n1_; have GW536 := n2_; have GE536 := n3_; clear n0_ n1_ n2_ n3_; clear hb hbox hg) | ((with_reducible refine gate_callee (f := 128) rfl ?_); refine goesL_ (some 8) rfl rfl Tryz.func128 (by kernel_rfl) rfl #[.string a0] rfl am ?_; (with_reducible refine (mbx_Read.calls (hG := by first | exact hG | exact Glob.below hG (by first | exact HB.out | (repeat (first | (with_reducible first | exact HB.out | apply below_alloc | apply pw_below_drewN | apply below_drew1 | refine below_set ?_ GE536.out) | exact HB.out))) | exact Glob.drawn hG (d0)) a0 t537 t538 _ A2.out).mono ?_); rintro e w11 ⟨v539, rfl, ho0, hb⟩; refine ⟨_, rfl, ?_⟩; have n0_ := Aside0.mk (Kd.R_lower (Kd.R_newB ho0 (g := gb536) (o := .cells #[.string (⟨#[]⟩ : ByteArray), .string (⟨#[]⟩ : ByteArray), .string (⟨#[]⟩ : ByteArray)] 91 (0, 0)) bk) (below_size bwS)); have n1_ := Aside0.mk (blk_below (g := gb536) (o := .cells #[.string (⟨#[]⟩ : ByteArray), .string (⟨#[]⟩ : ByteArray), .string (⟨#[]⟩ : ByteArray)] 91 (0, 0)) bk hb); have n2_ := Aside0.mk (below_step bwS hb); clear BK536; clear HB; have HO540 := n0_; have BK536 := n1_; have HB := n2_; clear n0_ n1_ n2_; (try clear hb); (try clear hb2); (try clear hk); (try clear hi); (try clear ho0); obtain ⟨Ao12, co12, eo12⟩ := Kd.R_slice HO540.out; subst eo12; obtain ⟨hcz13_0, hcz13_1, hcz13_2⟩ := ce3 BK536; obtain ⟨hfz13_0, hfz13_1, hfz13_2⟩ := fz3 BK536))
  refine bodyPost_ret (results_ct rfl _ _ gb536 91 #[.string (⟨#[]⟩ : ByteArray), .string (⟨#[]⟩ : ByteArray), .string (⟨#[]⟩ : ByteArray)] (0, 0) _ rfl (by (with_reducible repeat (first | refine blk_drewN ?_ _ | refine blk_drew ?_ | refine blk_alloc ?_ _)); refine blk_put (cs := #[.string (⟨#[]⟩ : ByteArray), .string (⟨#[]⟩ : ByteArray), .string (⟨#[]⟩ : ByteArray)]) ?_ 2 _ rfl; (with_reducible repeat (first | refine blk_drewN ?_ _ | refine blk_drew ?_ | refine blk_alloc ?_ _)); refine blk_put (cs := #[.string (⟨#[]⟩ : ByteArray), .string (⟨#[]⟩ : ByteArray), .string (⟨#[]⟩ : ByteArray)]) ?_ 1 _ rfl; (with_reducible repeat (first | refine blk_drewN ?_ _ | refine blk_drew ?_ | refine blk_alloc ?_ _)); exact blk_put (cs := #[.string (⟨#[]⟩ : ByteArray), .string (⟨#[]⟩ : ByteArray), .string (⟨#[]⟩ : ByteArray)]) bk 0 _ rfl) Tryz.underlying91 rfl (by kernel_rfl)) rfl ?_; exact ⟨ew, bwS⟩
 rw [if_neg c3] at H; have c3b0 := beq_eq_false_iff_ne.mpr c3; have c3b1 := bne_iff_ne.mpr c3; simp only [Option.some.injEq, Prod.mk.injEq] at H; obtain ⟨rfl, rfl, rfl, rfl⟩ := H
 go_enter Tryz.func91, Tryz.ntmps91
 go_wp2_with (first | ((with_reducible refine gate_dst (N := 2) rfl ?_); refine box_event ?hg (N := 2) ?hd (cs := #[.string (⟨#[]⟩ : ByteArray), .string (⟨#[]⟩ : ByteArray), .string (⟨#[]⟩ : ByteArray)]) (t := 91) ?hr ?_; (case hd => rfl); (case hg => rfl); (case hr => first | (go_simp; done) | (go_simp; rfl)); intro gb536 hg w14 hbox hb; have n0_ := Aside0.mk (below_step bw hb); have n1_ := Aside0.mk (hbox); have n2_ := Aside0.mk ((by rw [hg]; exact (below_size bw) : w.heap.size ≤ gb536)); have n3_ := Aside0.mk ((by rw [hg]; exact (below_size bw) : w.heap.size ≤ gb536)); clear HB; have HB := n0_; have BK536 := n1_; have GW536 := n2_; have GE536 := n3_; clear n0_ n1_ n2_ n3_; clear hb hbox hg) | ((with_reducible refine gate_callee (f := 128) rfl ?_); refine goesL_ (some 8) rfl rfl Tryz.func128 (by kernel_rfl) rfl #[.string a0] rfl am ?_; (with_reducible refine (mbx_Read.calls (hG := by first | exact hG | exact Glob.below hG (by first | exact HB.out | (repeat (first | (with_reducible first | exact HB.out | apply below_alloc | apply pw_below_drewN | apply below_drew1 | refine below_set ?_ GE536.out) | exact HB.out))) | exact Glob.drawn hG (d0)) a0 t537 t538 _ A2.out).mono ?_); rintro e w15 ⟨v539, rfl, ho0, hb⟩; refine ⟨_, rfl, ?_⟩; have n0_ := Aside0.mk (Kd.R_lower (Kd.R_newB ho0 (g := gb536) (o := .cells #[.string (⟨#[]⟩ : ByteArray), .string (⟨#[]⟩ : ByteArray), .string (⟨#[]⟩ : ByteArray)] 91 (0, 0)) bk) (below_size bwS)); have n1_ := Aside0.mk (blk_below (g := gb536) (o := .cells #[.string (⟨#[]⟩ : ByteArray), .string (⟨#[]⟩ : ByteArray), .string (⟨#[]⟩ : ByteArray)] 91 (0, 0)) bk hb); have n2_ := Aside0.mk (below_step bwS hb); clear BK536; clear HB; have HO540 := n0_; have BK536 := n1_; have HB := n2_; clear n0_ n1_ n2_; (try clear hb); (try clear hb2); (try clear hk); (try clear hi); (try clear ho0); obtain ⟨hcz16_0, hcz16_1, hcz16_2⟩ := ce3 BK536; obtain ⟨hfz16_0, hfz16_1, hfz16_2⟩ := fz3 BK536))
 refine bodyPost_ret (results_ct rfl _ _ gb536 91 #[.string (⟨#[]⟩ : ByteArray), .string (⟨#[]⟩ : ByteArray), .string (⟨#[]⟩ : ByteArray)] (0, 0) _ rfl (by (with_reducible repeat (first | refine blk_drewN ?_ _ | refine blk_drew ?_ | refine blk_alloc ?_ _)); refine blk_put (cs := #[.string (⟨#[]⟩ : ByteArray), .string (⟨#[]⟩ : ByteArray), .string (⟨#[]⟩ : ByteArray)]) ?_ 2 _ rfl; (with_reducible repeat (first | refine blk_drewN ?_ _ | refine blk_drew ?_ | refine blk_alloc ?_ _)); refine blk_put (cs := #[.string (⟨#[]⟩ : ByteArray), .string (⟨#[]⟩ : ByteArray), .string (⟨#[]⟩ : ByteArray)]) ?_ 1 _ rfl; (with_reducible repeat (first | refine blk_drewN ?_ _ | refine blk_drew ?_ | refine blk_alloc ?_ _)); exact blk_put (cs := #[.string (⟨#[]⟩ : ByteArray), .string (⟨#[]⟩ : ByteArray), .string (⟨#[]⟩ : ByteArray)]) bk 0 _ rfl) Tryz.underlying91 rfl (by kernel_rfl)) rfl ?_; exact ⟨ew, bwS⟩
def msg_Message_From.f (k : Nat) (l0_0 : List (S54)) (a0_1 : ByteArray) : Option (ByteArray × ByteArray × ByteArray × Int) := (head_All.f k l0_0 (⟨#[70, 114, 111, 109]⟩ : ByteArray)).bind fun t544 => (if (t544.length : Int) = 0 then (some ((⟨#[]⟩ : ByteArray), (⟨#[]⟩ : ByteArray), (⟨#[]⟩ : ByteArray), 6)) else (if (t544.length : Int) > 1 then (some ((⟨#[]⟩ : ByteArray), (⟨#[]⟩ : ByteArray), (⟨#[]⟩ : ByteArray), 7)) else (if 0 < (t544.length : Int) then ((mbx_One.f (rdOf ByteArray.empty t544 0)).bind fun bt548 => (some (bt548.1, bt548.2.1, bt548.2.2.1, bt548.2.2.2))) else (none))))
set_option maxRecDepth 100000 in
theorem msg_Message_From.calls (k : Nat) (A6 : Option Addr) (c6 : Nat) (fl : List S54) (body : ByteArray) (r1 r2 r3 : ByteArray) (r4 : Int) (w : World) (hG : Glob w) (hr0_0 : Kd.C k54 w A6 fl.length fl) (hc0_0 : fl.length ≤ c6) (h : msg_Message_From.f k fl body = some (r1, r2, r3, r4)) :
  Calls Tryz.prog 51 #[.agg #[.slice A6 fl.length c6, .string body]] w fun e w' => e = .returned (.tuple #[.agg #[.string r1, .string r2, .string r3], .int .i64 r4]) ∧ Below w.heap.size w w' := by
 have hu28 := Tryz.underlying28; have hu91 := Tryz.underlying91; have HB := Aside0.mk (Below.refl w.heap.size w); have HG := Aside0.mk hG; have R6 := Aside0.mk hr0_0; have C6 := Aside0.mk hc0_0; unfold msg_Message_From.f at h
 obtain ⟨l, h1, H⟩ := Option.bind_eq_some_iff.mp h; have H1 := Aside0.mk h1; clear h h1 hr0_0 hc0_0 hG
 by_cases c0 : (l.length : Int) = 0
 ·rw [if_pos c0] at H; simp only [Option.some.injEq, Prod.mk.injEq] at H; obtain ⟨rfl, rfl, rfl, rfl⟩ := H; have z0 : ((l.length : Int) == 0) = true := beq_iff_eq.mpr (by omega); have z1 : (l.length = 0) = True := eq_true (by omega); have z2 : (l.length == 0) = true := beq_iff_eq.mpr (by omega); have o0 : decide (1 < (l.length : Int)) = false := decide_eq_false (by omega); have o1 : ((1 : Int) < (l.length : Int)) = False := eq_false (by omega); have o2 : decide (1 < l.length) = false := decide_eq_false (by omega); clear c0
  go_enter Tryz.func51, Tryz.ntmps51
  go_wp2_with (first | ((with_reducible refine gate_dst (N := 1) rfl ?_); refine box_event ?hg (N := 1) ?hd (cs := #[.slice A6 fl.length c6, .string body]) (t := 28) ?hr ?_; (case hd => rfl); (case hg => rfl); (case hr => first | (go_simp; done) | (go_simp; rfl)); intro gm hg w8 hbox hb; have x1_ := Aside0.mk ((by rw [hg]; exact HB.out.size : w.heap.size ≤ gm)); have x0_ := Aside0.mk hbox; have n0_ := Aside0.mk (below_step HB.out hb); clear HB  hb; have HB := n0_; clear n0_ ; have GE_gm := x1_; have B_gm := x0_; clear x0_ x1_ hbox hg) | ((with_reducible refine gate_dst (N := 2) rfl ?_); refine box_event ?hg (N := 2) ?hd (cs := #[.string (⟨#[]⟩ : ByteArray), .string (⟨#[]⟩ : ByteArray), .string (⟨#[]⟩ : ByteArray)]) (t := 91) ?hr ?_; (case hd => rfl); (case hg => rfl); (case hr => first | (go_simp; done) | (go_simp; rfl)); intro gr hg w9 hbox hb; have x1_ := Aside0.mk ((by rw [hg]; exact HB.out.size : w.heap.size ≤ gr)); have x0_ := Aside0.mk hbox; have n0_ := Aside0.mk (below_step HB.out hb); have n1_ := Aside0.mk (blk_below B_gm.out hb); clear HB B_gm hb; have HB := n0_; have B_gm := n1_; clear n0_ n1_; have GE_gr := x1_; have B_gr := x0_; clear x0_ x1_ hbox hg; obtain ⟨hcm_0, hcm_1⟩ := ce2 B_gm; obtain ⟨hfm_0, hfm_1⟩ := fz2 B_gm) | (go_at_call 17; (with_reducible refine (head_All.calls k A6 c6 fl ⟨#[70, 114, 111, 109]⟩ l _ (Kd.C_below R6.out HB.out) C6.out H1.out).mono ?_); rintro e w11 ⟨v0, rfl, hv, hb⟩; obtain ⟨Ao, co, rfl⟩ := Kd.R_slice hv; have HV := Aside0.mk hv; clear hv; have n0_ := Aside0.mk (below_step HB.out hb); have n1_ := Aside0.mk (blk_below B_gr.out hb); clear HB B_gr hb; have HB := n0_; have B_gr := n1_; clear n0_ n1_; (try clear hcm_0 hfm_0 hcm_1 hfm_1); (try clear B_gm); obtain ⟨hcr_0, hcr_1, hcr_2⟩ := ce3 B_gr; obtain ⟨hfr_0, hfr_1, hfr_2⟩ := fz3 B_gr))
  refine bodyPost_ret (results_ct rfl _ _ gr 91 #[.string (⟨#[]⟩ : ByteArray), .string (⟨#[]⟩ : ByteArray), .string (⟨#[]⟩ : ByteArray)] (0, 0) _ rfl (by refine blk_put (cs := #[.string (⟨#[]⟩ : ByteArray), .string (⟨#[]⟩ : ByteArray), .string (⟨#[]⟩ : ByteArray)]) ?_ 2 _ rfl; refine blk_put (cs := #[.string (⟨#[]⟩ : ByteArray), .string (⟨#[]⟩ : ByteArray), .string (⟨#[]⟩ : ByteArray)]) ?_ 1 _ rfl; refine blk_put (cs := #[.string (⟨#[]⟩ : ByteArray), .string (⟨#[]⟩ : ByteArray), .string (⟨#[]⟩ : ByteArray)]) ?_ 0 _ rfl; exact B_gr.out) Tryz.underlying91 rfl (by kernel_rfl)) rfl ?_; exact ⟨rfl, ((HB.out.setCell (p := ⟨gr, 0, none⟩) GE_gr.out _).setCell (p := ⟨gr, 1, none⟩) GE_gr.out _).setCell (p := ⟨gr, 2, none⟩) GE_gr.out _⟩
 by_cases c1 : (l.length : Int) > 1
 ·rw [if_neg c0, if_pos c1] at H; simp only [Option.some.injEq, Prod.mk.injEq] at H; obtain ⟨rfl, rfl, rfl, rfl⟩ := H; have z0 : ((l.length : Int) == 0) = false := beq_eq_false_iff_ne.mpr (by omega); have z1 : (l.length = 0) = False := eq_false (by omega); have z2 : (l.length == 0) = false := beq_eq_false_iff_ne.mpr (by omega); have o0 : decide (1 < (l.length : Int)) = true := decide_eq_true (by omega); have o1 : ((1 : Int) < (l.length : Int)) = True := eq_true (by omega); have o2 : decide (1 < l.length) = true := decide_eq_true (by omega); clear c0 c1
  go_enter Tryz.func51, Tryz.ntmps51
  go_wp2_with (first | ((with_reducible refine gate_dst (N := 1) rfl ?_); refine box_event ?hg (N := 1) ?hd (cs := #[.slice A6 fl.length c6, .string body]) (t := 28) ?hr ?_; (case hd => rfl); (case hg => rfl); (case hr => first | (go_simp; done) | (go_simp; rfl)); intro gm hg w8 hbox hb; have x1_ := Aside0.mk ((by rw [hg]; exact HB.out.size : w.heap.size ≤ gm)); have x0_ := Aside0.mk hbox; have n0_ := Aside0.mk (below_step HB.out hb); clear HB  hb; have HB := n0_; clear n0_ ; have GE_gm := x1_; have B_gm := x0_; clear x0_ x1_ hbox hg) | ((with_reducible refine gate_dst (N := 2) rfl ?_); refine box_event ?hg (N := 2) ?hd (cs := #[.string (⟨#[]⟩ : ByteArray), .string (⟨#[]⟩ : ByteArray), .string (⟨#[]⟩ : ByteArray)]) (t := 91) ?hr ?_; (case hd => rfl); (case hg => rfl); (case hr => first | (go_simp; done) | (go_simp; rfl)); intro gr hg w9 hbox hb; have x1_ := Aside0.mk ((by rw [hg]; exact HB.out.size : w.heap.size ≤ gr)); have x0_ := Aside0.mk hbox; have n0_ := Aside0.mk (below_step HB.out hb); have n1_ := Aside0.mk (blk_below B_gm.out hb); clear HB B_gm hb; have HB := n0_; have B_gm := n1_; clear n0_ n1_; have GE_gr := x1_; have B_gr := x0_; clear x0_ x1_ hbox hg; obtain ⟨hcm_0, hcm_1⟩ := ce2 B_gm; obtain ⟨hfm_0, hfm_1⟩ := fz2 B_gm) | (go_at_call 17; (with_reducible refine (head_All.calls k A6 c6 fl ⟨#[70, 114, 111, 109]⟩ l _ (Kd.C_below R6.out HB.out) C6.out H1.out).mono ?_); rintro e w11 ⟨v0, rfl, hv, hb⟩; obtain ⟨Ao, co, rfl⟩ := Kd.R_slice hv; have HV := Aside0.mk hv; clear hv; have n0_ := Aside0.mk (below_step HB.out hb); have n1_ := Aside0.mk (blk_below B_gr.out hb); clear HB B_gr hb; have HB := n0_; have B_gr := n1_; clear n0_ n1_; (try clear hcm_0 hfm_0 hcm_1 hfm_1); (try clear B_gm); obtain ⟨hcr_0, hcr_1, hcr_2⟩ := ce3 B_gr; obtain ⟨hfr_0, hfr_1, hfr_2⟩ := fz3 B_gr))
  refine bodyPost_ret (results_ct rfl _ _ gr 91 #[.string (⟨#[]⟩ : ByteArray), .string (⟨#[]⟩ : ByteArray), .string (⟨#[]⟩ : ByteArray)] (0, 0) _ rfl (by refine blk_put (cs := #[.string (⟨#[]⟩ : ByteArray), .string (⟨#[]⟩ : ByteArray), .string (⟨#[]⟩ : ByteArray)]) ?_ 2 _ rfl; refine blk_put (cs := #[.string (⟨#[]⟩ : ByteArray), .string (⟨#[]⟩ : ByteArray), .string (⟨#[]⟩ : ByteArray)]) ?_ 1 _ rfl; refine blk_put (cs := #[.string (⟨#[]⟩ : ByteArray), .string (⟨#[]⟩ : ByteArray), .string (⟨#[]⟩ : ByteArray)]) ?_ 0 _ rfl; exact B_gr.out) Tryz.underlying91 rfl (by kernel_rfl)) rfl ?_; exact ⟨rfl, ((HB.out.setCell (p := ⟨gr, 0, none⟩) GE_gr.out _).setCell (p := ⟨gr, 1, none⟩) GE_gr.out _).setCell (p := ⟨gr, 2, none⟩) GE_gr.out _⟩
 rw [if_neg c0, if_neg c1, if_pos (by omega)] at H; obtain ⟨⟨x1, x2, x3, x4⟩, h2, H⟩ := Option.bind_eq_some_iff.mp H; have H2 := Aside0.mk h2; clear h2; simp only [Option.some.injEq, Prod.mk.injEq] at H; obtain ⟨rfl, rfl, rfl, rfl⟩ := H; have z0 : ((l.length : Int) == 0) = false := beq_eq_false_iff_ne.mpr (by omega); have z1 : (l.length = 0) = False := eq_false (by omega); have z2 : (l.length == 0) = false := beq_eq_false_iff_ne.mpr (by omega); have o0 : decide (1 < (l.length : Int)) = false := decide_eq_false (by omega); have o1 : ((1 : Int) < (l.length : Int)) = False := eq_false (by omega); have o2 : decide (1 < l.length) = false := decide_eq_false (by omega); have p0 : ((0 : Int) < (l.length : Int)) = True := eq_true (by omega); have p1 : decide (0 < l.length) = true := decide_eq_true (by omega); have p2 : (0 < l.length) = True := eq_true (by omega); have pl : 0 < (l.length : Int) := by omega
 clear c0 c1
 go_enter Tryz.func51, Tryz.ntmps51
 go_wp2_with (first | ((with_reducible refine gate_dst (N := 1) rfl ?_); refine box_event ?hg (N := 1) ?hd (cs := #[.slice A6 fl.length c6, .string body]) (t := 28) ?hr ?_; (case hd => rfl); (case hg => rfl); (case hr => first | (go_simp; done) | (go_simp; rfl)); intro gm hg w8 hbox hb; have x1_ := Aside0.mk ((by rw [hg]; exact HB.out.size : w.heap.size ≤ gm)); have x0_ := Aside0.mk hbox; have n0_ := Aside0.mk (below_step HB.out hb); clear HB  hb; have HB := n0_; clear n0_ ; have GE_gm := x1_; have B_gm := x0_; clear x0_ x1_ hbox hg) | ((with_reducible refine gate_dst (N := 2) rfl ?_); refine box_event ?hg (N := 2) ?hd (cs := #[.string (⟨#[]⟩ : ByteArray), .string (⟨#[]⟩ : ByteArray), .string (⟨#[]⟩ : ByteArray)]) (t := 91) ?hr ?_; (case hd => rfl); (case hg => rfl); (case hr => first | (go_simp; done) | (go_simp; rfl)); intro gr hg w9 hbox hb; have x1_ := Aside0.mk ((by rw [hg]; exact HB.out.size : w.heap.size ≤ gr)); have x0_ := Aside0.mk hbox; have n0_ := Aside0.mk (below_step HB.out hb); have n1_ := Aside0.mk (blk_below B_gm.out hb); clear HB B_gm hb; have HB := n0_; have B_gm := n1_; clear n0_ n1_; have GE_gr := x1_; have B_gr := x0_; clear x0_ x1_ hbox hg; obtain ⟨hcm_0, hcm_1⟩ := ce2 B_gm; obtain ⟨hfm_0, hfm_1⟩ := fz2 B_gm) | (go_at_call 17; (with_reducible refine (head_All.calls k A6 c6 fl ⟨#[70, 114, 111, 109]⟩ l _ (Kd.C_below R6.out HB.out) C6.out H1.out).mono ?_); rintro e w11 ⟨v0, rfl, hv, hb⟩; obtain ⟨Ao, co, rfl⟩ := Kd.R_slice hv; obtain ⟨ad, e0, hx⟩ := Kd.at_string (Kd.R_reads' hv).2.2 0 (by omega) pl; cases e0; (try rw [show ((0 : Int)).toNat = 0 from rfl] at hx); (try rw [Addr.add_zero'] at hx); clear hv; have n0_ := Aside0.mk (below_step HB.out hb); have n1_ := Aside0.mk (blk_below B_gr.out hb); clear HB B_gr hb; have HB := n0_; have B_gr := n1_; clear n0_ n1_; (try clear hcm_0 hfm_0 hcm_1 hfm_1); (try clear B_gm); obtain ⟨hcr_0, hcr_1, hcr_2⟩ := ce3 B_gr; obtain ⟨hfr_0, hfr_1, hfr_2⟩ := fz3 B_gr) | (go_at_call 91; (with_reducible refine (mbx_One.calls (rdOf ByteArray.empty l 0) x1 x2 x3 x4 _ (Glob.below HG.out HB.out) H2.out).mono ?_); rintro e w12 ⟨rfl, hb⟩; (try clear hcr_0 hfr_0 hcr_1 hfr_1 hcr_2 hfr_2); have n0_ := Aside0.mk (below_step HB.out hb); have n1_ := Aside0.mk (blk_below B_gr.out hb); clear HB B_gr hb; have HB := n0_; have B_gr := n1_; clear n0_ n1_; obtain ⟨hcr_0, hcr_1, hcr_2⟩ := ce3 B_gr; obtain ⟨hfr_0, hfr_1, hfr_2⟩ := fz3 B_gr))
 refine bodyPost_ret (results_ct rfl _ _ gr 91 #[.string x1, .string x2, .string x3] (0, 0) _ rfl (by refine blk_put (cs := #[.string x1, .string x2, .string (⟨#[]⟩ : ByteArray)]) ?_ 2 _ rfl; refine blk_put (cs := #[.string x1, .string (⟨#[]⟩ : ByteArray), .string (⟨#[]⟩ : ByteArray)]) ?_ 1 _ rfl; refine blk_put (cs := #[.string (⟨#[]⟩ : ByteArray), .string (⟨#[]⟩ : ByteArray), .string (⟨#[]⟩ : ByteArray)]) ?_ 0 _ rfl; exact B_gr.out) Tryz.underlying91 rfl (by kernel_rfl)) rfl ?_; exact ⟨rfl, ((HB.out.setCell (p := ⟨gr, 0, none⟩) GE_gr.out _).setCell (p := ⟨gr, 1, none⟩) GE_gr.out _).setCell (p := ⟨gr, 2, none⟩) GE_gr.out _⟩
end Go.Proofs.YtcndmhpeolbepaaGreatDoor.Fn
namespace Go.Proofs.YtcndmhpeolbepaaGreatDoor.Fn
/-! Layer 34: rights.refused, walked by hand. -/
def bigK : Nat := 100000000
def refB (sb hp au ok : Bool) : ByteArray := if sb = true then ⟨#[108, 111, 111, 112]⟩ else if hp = true then ⟨#[108, 111, 111, 112]⟩ else if au = true then ⟨#[97, 117, 116, 111]⟩ else if ok = true then ⟨#[]⟩ else ⟨#[102, 114, 111, 109]⟩
def rights_refused.f (a0 n t : ByteArray) (post : Int) (l3 l4 l5 : List S30) (dg sc : Int) (ar : Bool) (fl : List S54) (body : ByteArray) : Option ByteArray :=
 (msg_Message_From.f bigK fl body).bind fun fr => (rights_ID.f n a0).bind fun id => (msg_Message_Seen.f bigK fl body id).bind fun sb => (msg_Message_Hops.f bigK fl body).bind fun hp => (msg_Message_Auto.f bigK fl body).bind fun au => some (refB sb (decide (30 < hp)) au (fr.2.2.2 == 0))
set_option maxRecDepth 100000 in
theorem rights_refused.calls (a0 n t : ByteArray) (post : Int) (A3 : Option Addr) (c3 : Nat) (l3 : List S30) (A4 : Option Addr) (c4 : Nat) (l4 : List S30) (A5 : Option Addr) (c5 : Nat) (l5 : List S30) (dg sc : Int) (ar : Bool) (A6 : Option Addr) (c6 : Nat) (fl : List S54) (body : ByteArray) (r : ByteArray) (w : World) (hG : Glob w)
  (hr6 : Kd.C k54 w A6 fl.length fl) (hc6 : fl.length ≤ c6)
  (h : rights_refused.f a0 n t post l3 l4 l5 dg sc ar fl body = some r) :
  Calls Tryz.prog 50 #[.string a0, .agg #[.string n, .string t, .int .i64 post, .slice A3 l3.length c3, .slice A4 l4.length c4, .slice A5 l5.length c5, .int .i64 dg, .int .i64 sc, .bool ar], .agg #[.slice A6 fl.length c6, .string body]] w fun e w' => e = .returned (.string r) ∧ Below w.heap.size w w' := by
 unfold rights_refused.f at h
 obtain ⟨⟨f1, f2, f3, f4⟩, h1, h⟩ := Option.bind_eq_some_iff.mp h
 obtain ⟨id, h2, h⟩ := Option.bind_eq_some_iff.mp h
 obtain ⟨sb, h3, h⟩ := Option.bind_eq_some_iff.mp h
 obtain ⟨hp, h4, h⟩ := Option.bind_eq_some_iff.mp h
 obtain ⟨au, h5, h⟩ := Option.bind_eq_some_iff.mp h
 replace h := Option.some.inj h
 dsimp only at h
 have hu46 := Tryz.underlying46
 have hu28 := Tryz.underlying28
 have hu91 := Tryz.underlying91
 have HG := Aside0.mk hG
 have HB := Aside0.mk (Below.refl w.heap.size w)
 have H1 := Aside0.mk h1
 have H2 := Aside0.mk h2
 have H3 := Aside0.mk h3
 have H4 := Aside0.mk h4
 have H5 := Aside0.mk h5
 have R6 := Aside0.mk hr6
 have C6 := Aside0.mk hc6
 clear h1 h2 h3 h4 h5 hr6 hc6 hG
 obtain ⟨q1, e1⟩ : ∃ b, decide (30 < hp) = b := ⟨_, rfl⟩
 obtain ⟨q2, e2⟩ : ∃ b, (f4 == 0) = b := ⟨_, rfl⟩
 rw [e1, e2] at h
 have n2 : (f4 != 0) = !q2 := by rw [← e2]; rfl
 have key : (sb = true) ∨ (sb = false ∧ q1 = true) ∨ (sb = false ∧ q1 = false ∧ au = true) ∨ (sb = false ∧ q1 = false ∧ au = false ∧ q2 = true) ∨ (sb = false ∧ q1 = false ∧ au = false ∧ q2 = false) := by cases sb <;> cases q1 <;> cases au <;> cases q2 <;> simp
 rcases key with rfl | ⟨rfl, rfl⟩ | ⟨rfl, rfl, rfl⟩ | ⟨rfl, rfl, rfl, rfl⟩ | ⟨rfl, rfl, rfl, rfl⟩
 all_goals
  simp [refB] at h
  subst h
  (try simp only [Bool.not_true, Bool.not_false] at n2)
  go_enter Tryz.func50, Tryz.ntmps50
  go_upto_region 2 with (first | ((with_reducible refine gate_dst (N := 4) rfl ?_); refine box_event ?hg (N := 4) ?hd (cs := #[.string n, .string t, .int .i64 post, .slice A3 l3.length c3, .slice A4 l4.length c4, .slice A5 l5.length c5, .int .i64 dg, .int .i64 sc, .bool ar]) (t := 46) ?hr ?_; (case hd => rfl); (case hg => rfl); (case hr => first | (go_simp; done) | (go_simp; rfl)); intro gl hg w8 hbox hb; have GE_gl : Aside0 (w.heap.size ≤ gl) := ⟨by rw [hg]; exact HB.out.size⟩; have B_gl := Aside0.mk hbox; clear hbox hg; replace HB := st_ HB hb; clear hb) | ((with_reducible refine gate_dst (N := 5) rfl ?_); refine box_event ?hg (N := 5) ?hd (cs := #[.slice A6 fl.length c6, .string body]) (t := 28) ?hr ?_; (case hd => rfl); (case hg => rfl); (case hr => first | (go_simp; done) | (go_simp; rfl)); intro gm hg w9 hbox hb; have GE_gm : Aside0 (w.heap.size ≤ gm) := ⟨by rw [hg]; exact HB.out.size⟩; have NE : Aside0 (gl ≠ gm) := ⟨by rw [hg]; exact Nat.ne_of_lt (blk_lt B_gl.out)⟩; have B_gm := Aside0.mk hbox; clear hbox hg; replace B_gl := sb_ B_gl hb; replace HB := st_ HB hb; clear hb; obtain ⟨hcl_0, hcl_1, hcl_2, hcl_3, hcl_4, hcl_5, hcl_6, hcl_7, hcl_8⟩ := cells9 B_gl; obtain ⟨hcm_0, hcm_1⟩ := cells2 B_gm) | (go_at_call 51; (with_reducible refine (msg_Message_From.calls bigK A6 c6 fl body f1 f2 f3 f4 _ (Glob.below HG.out HB.out) (Kd.C_below R6.out HB.out) C6.out H1.out).mono ?_); rintro e w11 ⟨rfl, hb⟩; replace B_gl := sb_ B_gl hb; replace B_gm := sb_ B_gm hb; replace HB := st_ HB hb; clear hb; (try clear hcl_0 hcl_1 hcl_2 hcl_3 hcl_4 hcl_5 hcl_6 hcl_7 hcl_8); (try clear hcm_0 hcm_1)) | ((with_reducible refine gate_dst (N := 7) rfl ?_); refine box_event ?hg (N := 7) ?hd (cs := #[.string (⟨#[]⟩ : ByteArray), .string (⟨#[]⟩ : ByteArray), .string (⟨#[]⟩ : ByteArray)]) (t := 91) ?hr ?_; (case hd => rfl); (case hg => rfl); (case hr => first | (go_simp; done) | (go_simp; rfl)); intro gb hg w12 hbox hb; have GE_gb : Aside0 (w.heap.size ≤ gb) := ⟨by rw [hg]; exact HB.out.size⟩; have NL : Aside0 (gl ≠ gb) := ⟨by rw [hg]; exact Nat.ne_of_lt (blk_lt B_gl.out)⟩; have NM : Aside0 (gm ≠ gb) := ⟨by rw [hg]; exact Nat.ne_of_lt (blk_lt B_gm.out)⟩; have B_gb := Aside0.mk hbox; clear hbox hg; replace B_gl := sb_ B_gl hb; replace B_gm := sb_ B_gm hb; replace HB := st_ HB hb; clear hb; obtain ⟨hcb_0, hcb_1, hcb_2⟩ := cells3 B_gb; obtain ⟨hfb_0, hfb_1, hfb_2⟩ := fz3 B_gb))
  (try clear hcb_0 hcb_1 hcb_2 hfb_0 hfb_1 hfb_2)
  have n0_ := bel3_ (g := gb) (v0 := .string f1) (v1 := .string f2) (v2 := .string f3) HB GE_gb
  have n2_ := far3_ (g := gb) (v0 := .string f1) (v1 := .string f2) (v2 := .string f3) B_gl NL
  have n3_ := far3_ (g := gb) (v0 := .string f1) (v1 := .string f2) (v2 := .string f3) B_gm NM
  generalize (((w12.setCell ⟨gb, 0, none⟩ (.string f1)).setCell ⟨gb, 1, none⟩ (.string f2)).setCell ⟨gb, 2, none⟩ (.string f3)) = w13 at n0_ n2_ n3_ ⊢
  replace HB := n0_
  replace B_gl := n2_
  replace B_gm := n3_
  refine wp_quiet_below (by kernel_rfl) (by kernel_rfl) ?_
  repeat (refine wpQuiet_step (fun K hK => ?_); go_simp; first | (refine hK _ ?_; clear hK K) | (apply Exists.intro; refine ⟨fun w_ hw_ => ?_, hK _ ?_⟩; (first | (go_at_call 21; (with_reducible refine (rights_ID.calls n a0 id _ H2.out).mono ?_); rintro e w'_ ⟨rfl, hb⟩; exact ⟨rfl, grown_step hw_ hb.below⟩) | (go_at_call 88; (with_reducible refine (msg_Message_Seen.calls bigK A6 c6 fl body id _ _ (Kd.C_below R6.out (grown_below hw_ HB.out HB.out.size)) C6.out H3.out).mono ?_); rintro e w'_ ⟨rfl, hb⟩; exact ⟨rfl, grown_step hw_ hb⟩) | (go_at_call 89; (with_reducible refine (msg_Message_Hops.calls bigK A6 c6 fl body hp _ (Kd.C_below R6.out (grown_below hw_ HB.out HB.out.size)) C6.out H4.out).mono ?_); rintro e w'_ ⟨rfl, hb⟩; exact ⟨rfl, grown_step hw_ hb⟩) | rfl | (obtain ⟨hcl_0, hcl_1, hcl_2, hcl_3, hcl_4, hcl_5, hcl_6, hcl_7, hcl_8⟩ := cells9 (sg_ B_gl hw_); obtain ⟨hcm_0, hcm_1⟩ := cells2 (sg_ B_gm hw_); go_simp; first | done | rfl)); clear hK K))
  refine wpQuiet_nil ?_
  intro w14 hw'
  replace B_gm := sg_ B_gm hw'
  replace HB := sgb_ HB hw'
  clear hw'
  clear B_gl
  obtain ⟨hcm_0, hcm_1⟩ := cells2 B_gm
  go_wp2_with (go_at_call 90; (with_reducible refine (msg_Message_Auto.calls bigK A6 c6 fl body _ _ (Kd.C_below R6.out HB.out) C6.out H5.out).mono ?_); rintro e w15 ⟨rfl, hb⟩; replace B_gm := sb_ B_gm hb; replace HB := st_ HB hb; clear hb)
  go_ret
  exact ⟨rfl, HB.out⟩
/-! Layer 34: rights.Judge, walked by hand. -/
def judgeB (b1 md b3 b4 b5 mem : Bool) (rf od : ByteArray) : Int × ByteArray :=
 if b1 = false then (3, rf) else if md = true then (1, ⟨#[]⟩) else if b3 = false then (2, od) else if b4 = true then (1, ⟨#[]⟩) else if b5 = true then (2, ⟨#[109, 111, 100, 101, 114, 97, 116, 101, 100]⟩) else if mem = true then (1, ⟨#[]⟩) else (2, ⟨#[109, 101, 109, 98, 101, 114]⟩)
def rights_Judge.f (a0 n t : ByteArray) (post : Int) (l3 l4 l5 : List S30) (dg sc : Int) (ar : Bool) (fl : List S54) (body : ByteArray) (mem : Bool) : Option (Int × ByteArray) :=
 (rights_refused.f a0 n t post l3 l4 l5 dg sc ar fl body).bind fun rf => (msg_Message_From.f bigK fl body).bind fun fr => (conf_List_Mod.f bigK n t post l3 l4 l5 dg sc ar fr.2.1 fr.2.2.1).bind fun md => (rights_odd.f bigK fl body).bind fun od =>
  some (judgeB (rf.toList == []) md (od.toList == []) (post == 1) (post == 3) mem rf od)
set_option maxRecDepth 100000 in
theorem rights_Judge.calls (a0 n t : ByteArray) (post : Int) (A3 : Option Addr) (c3 : Nat) (l3 : List S30) (A4 : Option Addr) (c4 : Nat) (l4 : List S30) (A5 : Option Addr) (c5 : Nat) (l5 : List S30) (dg sc : Int) (ar : Bool) (A6 : Option Addr) (c6 : Nat) (fl : List S54) (body : ByteArray) (mem : Bool) (r1 : Int) (r2 : ByteArray) (w : World) (hG : Glob w)
  (hr3 : Kd.C k30 w A3 l3.length l3) (hc3 : l3.length ≤ c3) (hr4 : Kd.C k30 w A4 l4.length l4) (hc4 : l4.length ≤ c4) (hr5 : Kd.C k30 w A5 l5.length l5) (hc5 : l5.length ≤ c5) (hr6 : Kd.C k54 w A6 fl.length fl) (hc6 : fl.length ≤ c6)
  (h : rights_Judge.f a0 n t post l3 l4 l5 dg sc ar fl body mem = some (r1, r2)) :
  Calls Tryz.prog 22 #[.string a0, .agg #[.string n, .string t, .int .i64 post, .slice A3 l3.length c3, .slice A4 l4.length c4, .slice A5 l5.length c5, .int .i64 dg, .int .i64 sc, .bool ar], .agg #[.slice A6 fl.length c6, .string body], .bool mem] w fun e w' => e = .returned (.tuple #[.int .i64 r1, .string r2]) ∧ Below w.heap.size w w' := by
 unfold rights_Judge.f at h
 obtain ⟨rf, h1, h⟩ := Option.bind_eq_some_iff.mp h
 obtain ⟨⟨f1, f2, f3, f4⟩, h2, h⟩ := Option.bind_eq_some_iff.mp h
 obtain ⟨md, h3, h⟩ := Option.bind_eq_some_iff.mp h
 obtain ⟨od, h4, h⟩ := Option.bind_eq_some_iff.mp h
 replace h := Option.some.inj h
 have hu46 := Tryz.underlying46
 have hu28 := Tryz.underlying28
 have hu91 := Tryz.underlying91
 have hu30 := Tryz.underlying30
 have HG := Aside0.mk hG
 have HB := Aside0.mk (Below.refl w.heap.size w)
 have H1 := Aside0.mk h1
 have H2 := Aside0.mk h2
 have H3 := Aside0.mk h3
 have H4 := Aside0.mk h4
 have R3 := Aside0.mk hr3
 have R4 := Aside0.mk hr4
 have R5 := Aside0.mk hr5
 have R6 := Aside0.mk hr6
 have C3 := Aside0.mk hc3
 have C4 := Aside0.mk hc4
 have C5 := Aside0.mk hc5
 have C6 := Aside0.mk hc6
 clear h1 h2 h3 h4 hr3 hr4 hr5 hr6 hc3 hc4 hc5 hc6 hG
 obtain ⟨b1, e1⟩ : ∃ b, (rf.toList == ([] : List UInt8)) = b := ⟨_, rfl⟩
 obtain ⟨b3, e3⟩ : ∃ b, (od.toList == ([] : List UInt8)) = b := ⟨_, rfl⟩
 obtain ⟨b4, e4⟩ : ∃ b, (post == 1) = b := ⟨_, rfl⟩
 obtain ⟨b5, e5⟩ : ∃ b, (post == 3) = b := ⟨_, rfl⟩
 rw [e1, e3, e4, e5] at h
 have n1 : (rf.toList != ([] : List UInt8)) = !b1 := by rw [← e1]; rfl
 have n3 : (od.toList != ([] : List UInt8)) = !b3 := by rw [← e3]; rfl
 have key : (b1 = false) ∨ (b1 = true ∧ md = true) ∨ (b1 = true ∧ md = false ∧ b3 = false) ∨ (b1 = true ∧ md = false ∧ b3 = true ∧ b4 = true) ∨ (b1 = true ∧ md = false ∧ b3 = true ∧ b4 = false ∧ b5 = true) ∨ (b1 = true ∧ md = false ∧ b3 = true ∧ b4 = false ∧ b5 = false ∧ mem = true) ∨ (b1 = true ∧ md = false ∧ b3 = true ∧ b4 = false ∧ b5 = false ∧ mem = false) := by cases b1 <;> cases md <;> cases b3 <;> cases b4 <;> cases b5 <;> cases mem <;> simp
 rcases key with rfl | ⟨rfl, rfl⟩ | ⟨rfl, rfl, rfl⟩ | ⟨rfl, rfl, rfl, rfl⟩ | ⟨rfl, rfl, rfl, rfl, rfl⟩ | ⟨rfl, rfl, rfl, rfl, rfl, rfl⟩ | ⟨rfl, rfl, rfl, rfl, rfl, rfl⟩
 ·simp [judgeB] at h
  obtain ⟨rfl, rfl⟩ := h
  simp only [Bool.not_true, Bool.not_false] at n1 n3
  go_enter Tryz.func22, Tryz.ntmps22
  go_wp2_with (first | ((with_reducible refine gate_dst (N := 5) rfl ?_); refine box_event ?hg (N := 5) ?hd (cs := #[.string n, .string t, .int .i64 post, .slice A3 l3.length c3, .slice A4 l4.length c4, .slice A5 l5.length c5, .int .i64 dg, .int .i64 sc, .bool ar]) (t := 46) ?hr ?_; (case hd => rfl); (case hg => rfl); (case hr => first | (go_simp; done) | (go_simp; rfl)); intro gl hg w8 hbox hb; have GE_gl : Aside0 (w.heap.size ≤ gl) := ⟨by rw [hg]; exact HB.out.size⟩; have B_gl := Aside0.mk hbox; clear hbox hg; replace HB := st_ HB hb; clear hb) | ((with_reducible refine gate_dst (N := 6) rfl ?_); refine box_event ?hg (N := 6) ?hd (cs := #[.slice A6 fl.length c6, .string body]) (t := 28) ?hr ?_; (case hd => rfl); (case hg => rfl); (case hr => first | (go_simp; done) | (go_simp; rfl)); intro gm hg w9 hbox hb; have GE_gm : Aside0 (w.heap.size ≤ gm) := ⟨by rw [hg]; exact HB.out.size⟩; have NE : Aside0 (gl ≠ gm) := ⟨by rw [hg]; exact Nat.ne_of_lt (blk_lt B_gl.out)⟩; have B_gm := Aside0.mk hbox; clear hbox hg; replace B_gl := sb_ B_gl hb; replace HB := st_ HB hb; clear hb; obtain ⟨hcl_0, hcl_1, hcl_2, hcl_3, hcl_4, hcl_5, hcl_6, hcl_7, hcl_8⟩ := cells9 B_gl; obtain ⟨hcm_0, hcm_1⟩ := cells2 B_gm) | (go_at_call 50; (with_reducible refine (rights_refused.calls a0 n t post A3 c3 l3 A4 c4 l4 A5 c5 l5 dg sc ar A6 c6 fl body rf _ (Glob.below HG.out HB.out) (Kd.C_below R6.out HB.out) C6.out H1.out).mono ?_); rintro e w10 ⟨rfl, hb⟩; replace B_gl := sb_ B_gl hb; replace B_gm := sb_ B_gm hb; replace HB := st_ HB hb; clear hb; (try clear hcl_0 hcl_1 hcl_2 hcl_3 hcl_4 hcl_5 hcl_6 hcl_7 hcl_8); (try clear hcm_0 hcm_1); obtain ⟨hcl_0, hcl_1, hcl_2, hcl_3, hcl_4, hcl_5, hcl_6, hcl_7, hcl_8⟩ := cells9 B_gl; obtain ⟨hcm_0, hcm_1⟩ := cells2 B_gm))
  go_ret2
  exact ⟨rfl, HB.out⟩
 all_goals
  simp [judgeB] at h
  obtain ⟨rfl, rfl⟩ := h
  simp only [Bool.not_true, Bool.not_false] at n1 n3
  go_enter Tryz.func22, Tryz.ntmps22
  go_upto_region 5 with (first | ((with_reducible refine gate_dst (N := 5) rfl ?_); refine box_event ?hg (N := 5) ?hd (cs := #[.string n, .string t, .int .i64 post, .slice A3 l3.length c3, .slice A4 l4.length c4, .slice A5 l5.length c5, .int .i64 dg, .int .i64 sc, .bool ar]) (t := 46) ?hr ?_; (case hd => rfl); (case hg => rfl); (case hr => first | (go_simp; done) | (go_simp; rfl)); intro gl hg w8 hbox hb; have GE_gl : Aside0 (w.heap.size ≤ gl) := ⟨by rw [hg]; exact HB.out.size⟩; have B_gl := Aside0.mk hbox; clear hbox hg; replace HB := st_ HB hb; clear hb) | ((with_reducible refine gate_dst (N := 6) rfl ?_); refine box_event ?hg (N := 6) ?hd (cs := #[.slice A6 fl.length c6, .string body]) (t := 28) ?hr ?_; (case hd => rfl); (case hg => rfl); (case hr => first | (go_simp; done) | (go_simp; rfl)); intro gm hg w9 hbox hb; have GE_gm : Aside0 (w.heap.size ≤ gm) := ⟨by rw [hg]; exact HB.out.size⟩; have NE : Aside0 (gl ≠ gm) := ⟨by rw [hg]; exact Nat.ne_of_lt (blk_lt B_gl.out)⟩; have B_gm := Aside0.mk hbox; clear hbox hg; replace B_gl := sb_ B_gl hb; replace HB := st_ HB hb; clear hb; obtain ⟨hcl_0, hcl_1, hcl_2, hcl_3, hcl_4, hcl_5, hcl_6, hcl_7, hcl_8⟩ := cells9 B_gl; obtain ⟨hcm_0, hcm_1⟩ := cells2 B_gm) | (go_at_call 50; (with_reducible refine (rights_refused.calls a0 n t post A3 c3 l3 A4 c4 l4 A5 c5 l5 dg sc ar A6 c6 fl body rf _ (Glob.below HG.out HB.out) (Kd.C_below R6.out HB.out) C6.out H1.out).mono ?_); rintro e w10 ⟨rfl, hb⟩; replace B_gl := sb_ B_gl hb; replace B_gm := sb_ B_gm hb; replace HB := st_ HB hb; clear hb; (try clear hcl_0 hcl_1 hcl_2 hcl_3 hcl_4 hcl_5 hcl_6 hcl_7 hcl_8); (try clear hcm_0 hcm_1); obtain ⟨hcl_0, hcl_1, hcl_2, hcl_3, hcl_4, hcl_5, hcl_6, hcl_7, hcl_8⟩ := cells9 B_gl; obtain ⟨hcm_0, hcm_1⟩ := cells2 B_gm) | (go_at_call 51; (with_reducible refine (msg_Message_From.calls bigK A6 c6 fl body f1 f2 f3 f4 _ (Glob.below HG.out HB.out) (Kd.C_below R6.out HB.out) C6.out H2.out).mono ?_); rintro e w11 ⟨rfl, hb⟩; replace B_gl := sb_ B_gl hb; replace B_gm := sb_ B_gm hb; replace HB := st_ HB hb; clear hb; (try clear hcl_0 hcl_1 hcl_2 hcl_3 hcl_4 hcl_5 hcl_6 hcl_7 hcl_8); (try clear hcm_0 hcm_1)) | ((with_reducible refine gate_dst (N := 11) rfl ?_); refine box_event ?hg (N := 11) ?hd (cs := #[.string (⟨#[]⟩ : ByteArray), .string (⟨#[]⟩ : ByteArray), .string (⟨#[]⟩ : ByteArray)]) (t := 91) ?hr ?_; (case hd => rfl); (case hg => rfl); (case hr => first | (go_simp; done) | (go_simp; rfl)); intro gb hg w12 hbox hb; have GE_gb : Aside0 (w.heap.size ≤ gb) := ⟨by rw [hg]; exact HB.out.size⟩; have NL : Aside0 (gl ≠ gb) := ⟨by rw [hg]; exact Nat.ne_of_lt (blk_lt B_gl.out)⟩; have NM : Aside0 (gm ≠ gb) := ⟨by rw [hg]; exact Nat.ne_of_lt (blk_lt B_gm.out)⟩; have B_gb := Aside0.mk hbox; clear hbox hg; replace B_gl := sb_ B_gl hb; replace B_gm := sb_ B_gm hb; replace HB := st_ HB hb; clear hb; obtain ⟨hcb_0, hcb_1, hcb_2⟩ := cells3 B_gb; obtain ⟨hfb_0, hfb_1, hfb_2⟩ := fz3 B_gb))
  (try clear hcb_0 hcb_1 hcb_2 hfb_0 hfb_1 hfb_2)
  have n0_ := bel3_ (g := gb) (v0 := .string f1) (v1 := .string f2) (v2 := .string f3) HB GE_gb
  have n2_ := far3_ (g := gb) (v0 := .string f1) (v1 := .string f2) (v2 := .string f3) B_gl NL
  have n3_ := far3_ (g := gb) (v0 := .string f1) (v1 := .string f2) (v2 := .string f3) B_gm NM
  have n1_ := put3_ (v0 := .string f1) (v1 := .string f2) (v2 := .string f3) B_gb
  generalize (((w12.setCell ⟨gb, 0, none⟩ (.string f1)).setCell ⟨gb, 1, none⟩ (.string f2)).setCell ⟨gb, 2, none⟩ (.string f3)) = w13 at n0_ n1_ n2_ n3_ ⊢
  replace HB := n0_
  replace B_gb := n1_
  replace B_gl := n2_
  replace B_gm := n3_
  obtain ⟨hcl_0, hcl_1, hcl_2, hcl_3, hcl_4, hcl_5, hcl_6, hcl_7, hcl_8⟩ := cells9 B_gl
  obtain ⟨hcm_0, hcm_1⟩ := cells2 B_gm
  obtain ⟨hcb_0, hcb_1, hcb_2⟩ := cells3 B_gb
  go_wp2_with (first | (go_at_call 52; (with_reducible refine (conf_List_Mod.calls bigK n t post A3 c3 l3 A4 c4 l4 A5 c5 l5 dg sc ar f2 f3 _ _ (Kd.C_below R3.out HB.out) C3.out (Kd.C_below R4.out HB.out) C4.out (Kd.C_below R5.out HB.out) C5.out H3.out).mono ?_); rintro e w14 ⟨rfl, hb⟩; replace B_gl := sb_ B_gl hb; replace B_gm := sb_ B_gm hb; replace HB := st_ HB hb; clear hb; (try clear hcl_0 hcl_1 hcl_2 hcl_3 hcl_4 hcl_5 hcl_6 hcl_7 hcl_8); (try clear hcm_0 hcm_1); (try clear hcb_0 hcb_1 hcb_2); obtain ⟨hcl_0, hcl_1, hcl_2, hcl_3, hcl_4, hcl_5, hcl_6, hcl_7, hcl_8⟩ := cells9 B_gl; obtain ⟨hcm_0, hcm_1⟩ := cells2 B_gm) | (go_at_call 53; (with_reducible refine (rights_odd.calls bigK A6 c6 fl body od _ (Glob.below HG.out HB.out) (Kd.C_below R6.out HB.out) C6.out H4.out).mono ?_); rintro e w15 ⟨rfl, hb⟩; replace B_gl := sb_ B_gl hb; replace B_gm := sb_ B_gm hb; replace HB := st_ HB hb; clear hb; (try clear hcl_0 hcl_1 hcl_2 hcl_3 hcl_4 hcl_5 hcl_6 hcl_7 hcl_8); (try clear hcm_0 hcm_1); obtain ⟨hcl_0, hcl_1, hcl_2, hcl_3, hcl_4, hcl_5, hcl_6, hcl_7, hcl_8⟩ := cells9 B_gl; obtain ⟨hcm_0, hcm_1⟩ := cells2 B_gm))
  go_ret2
  exact ⟨rfl, HB.out⟩
end Go.Proofs.YtcndmhpeolbepaaGreatDoor.Fn
namespace Go.Proofs.YtcndmhpeolbepaaGreatDoor.Fn
attribute [local go_sem] max2_int min2_int max_two min_two max_three min_three max_four min_four
def bulletinlaw34_works.f (k : Nat)  : Option (Bool) := (some (([(⟨(⟨#[70, 114, 111, 109]⟩ : ByteArray), (⟨#[97, 64, 98]⟩ : ByteArray)⟩ : S54), (⟨(⟨#[83, 117, 98, 106, 101, 99, 116]⟩ : ByteArray), (⟨#[104, 105]⟩ : ByteArray)⟩ : S54)] : List (S54)) : List (S54))).bind fun y611 => ((rights_Judge.f (⟨#[120, 46, 111, 114, 103]⟩ : ByteArray) (⟨#[100, 101, 118]⟩ : ByteArray) (⟨#[]⟩ : ByteArray) 2 ([] : List (S30)) ([] : List (S30)) ([] : List (S30)) 0 0 false y611 (⟨#[]⟩ : ByteArray) false).bind fun bt615 => ((rights_Judge.f (⟨#[120, 46, 111, 114, 103]⟩ : ByteArray) (⟨#[100, 101, 118]⟩ : ByteArray) (⟨#[]⟩ : ByteArray) 2 ([] : List (S30)) ([] : List (S30)) ([] : List (S30)) 0 0 false y611 (⟨#[]⟩ : ByteArray) true).bind fun bt617 => (if bt615.1 = 2 then (if bt615.2.toList = ([109, 101, 109, 98, 101, 114] : List UInt8) then (if bt617.1 = 1 then (if bt617.2.toList = ([] : List UInt8) then ((rights_Subject.f k y611 (⟨#[]⟩ : ByteArray)).bind fun t619 => (some (t619.toList == ([104, 105] : List UInt8)))) else (some false)) else (some false)) else (some false)) else (some false))))
theorem bulletinlaw34_works.mono : ∀ k, LeO (bulletinlaw34_works.f k ) (bulletinlaw34_works.f (k + 1) ) := by
 intro  k; unfold bulletinlaw34_works.f
 repeat' first
   | (with_reducible exact rights_Subject.mono _ _ _)
   | (with_reducible exact LeO.refl _)
   | (with_reducible exact LeO.none _)
   | (with_reducible refine LeO.ite ?_ ?_)
   | (with_reducible refine LeO.bind ?_ (fun _ => ?_))
   | exact rights_Subject.mono _ _ _
   | exact LeO.none _
   | refine LeO.ite ?_ ?_
   | refine LeO.bind ?_ (fun _ => ?_)
set_option maxRecDepth 100000 in
theorem bulletinlaw34_works.callsT (k : Nat)  (r : Bool) (w : World) (hG : Glob w) (h : bulletinlaw34_works.f k  = some r) (hT : r = true) :
  Calls Tryz.prog 19 #[] w fun e w' => e = .returned (.bool r) ∧ Below w.heap.size w w' := by
 have HT := Aside0.mk hT; clear hT; have hu54 := Tryz.underlying54; have hu28 := Tryz.underlying28; have hu46 := Tryz.underlying46; have HB := Aside0.mk (Below.refl w.heap.size w); have H : ((some (([(⟨(⟨#[70, 114, 111, 109]⟩ : ByteArray), (⟨#[97, 64, 98]⟩ : ByteArray)⟩ : S54), (⟨(⟨#[83, 117, 98, 106, 101, 99, 116]⟩ : ByteArray), (⟨#[104, 105]⟩ : ByteArray)⟩ : S54)] : List (S54)) : List (S54))).bind fun y611 => ((rights_Judge.f (⟨#[120, 46, 111, 114, 103]⟩ : ByteArray) (⟨#[100, 101, 118]⟩ : ByteArray) (⟨#[]⟩ : ByteArray) 2 ([] : List (S30)) ([] : List (S30)) ([] : List (S30)) 0 0 false y611 (⟨#[]⟩ : ByteArray) false).bind fun bt615 => ((rights_Judge.f (⟨#[120, 46, 111, 114, 103]⟩ : ByteArray) (⟨#[100, 101, 118]⟩ : ByteArray) (⟨#[]⟩ : ByteArray) 2 ([] : List (S30)) ([] : List (S30)) ([] : List (S30)) 0 0 false y611 (⟨#[]⟩ : ByteArray) true).bind fun bt617 => (if bt615.1 = 2 then (if bt615.2.toList = ([109, 101, 109, 98, 101, 114] : List UInt8) then (if bt617.1 = 1 then (if bt617.2.toList = ([] : List UInt8) then ((rights_Subject.f k y611 (⟨#[]⟩ : ByteArray)).bind fun t619 => (some (t619.toList == ([104, 105] : List UInt8)))) else (some false)) else (some false)) else (some false)) else (some false))))) = some r := h; clear h; obtain ⟨y611, hy611⟩ : ∃ y_ : List (S54), y_ = (([(⟨(⟨#[70, 114, 111, 109]⟩ : ByteArray), (⟨#[97, 64, 98]⟩ : ByteArray)⟩ : S54), (⟨(⟨#[83, 117, 98, 106, 101, 99, 116]⟩ : ByteArray), (⟨#[104, 105]⟩ : ByteArray)⟩ : S54)] : List (S54))) := ⟨_, rfl⟩
 replace H : ((rights_Judge.f (⟨#[120, 46, 111, 114, 103]⟩ : ByteArray) (⟨#[100, 101, 118]⟩ : ByteArray) (⟨#[]⟩ : ByteArray) 2 ([] : List (S30)) ([] : List (S30)) ([] : List (S30)) 0 0 false y611 (⟨#[]⟩ : ByteArray) false).bind fun bt615 => ((rights_Judge.f (⟨#[120, 46, 111, 114, 103]⟩ : ByteArray) (⟨#[100, 101, 118]⟩ : ByteArray) (⟨#[]⟩ : ByteArray) 2 ([] : List (S30)) ([] : List (S30)) ([] : List (S30)) 0 0 false y611 (⟨#[]⟩ : ByteArray) true).bind fun bt617 => (if bt615.1 = 2 then (if bt615.2.toList = ([109, 101, 109, 98, 101, 114] : List UInt8) then (if bt617.1 = 1 then (if bt617.2.toList = ([] : List UInt8) then ((rights_Subject.f k y611 (⟨#[]⟩ : ByteArray)).bind fun t619 => (some (t619.toList == ([104, 105] : List UInt8)))) else (some false)) else (some false)) else (some false)) else (some false)))) = some r := by first | (rw [hy611]; with_reducible exact H) | (have H2_ := (Option.bind_some _ _).symm.trans H; rw [hy611]; with_reducible exact H2_) | (have H2_ := (Option.bind_some _ _).symm.trans H; with_reducible exact H2_) | with_reducible exact H | (rw [hy611]; exact H) | exact H
 have Ny611 := Aside0.mk hy611; clear hy611; replace H := Option.bind_eq_some_iff.mp H; obtain ⟨⟨t615, t616⟩, A10, H⟩ := H; replace H : ((rights_Judge.f (⟨#[120, 46, 111, 114, 103]⟩ : ByteArray) (⟨#[100, 101, 118]⟩ : ByteArray) (⟨#[]⟩ : ByteArray) 2 ([] : List (S30)) ([] : List (S30)) ([] : List (S30)) 0 0 false y611 (⟨#[]⟩ : ByteArray) true).bind fun bt617 => (if t615 = 2 then (if t616.toList = ([109, 101, 109, 98, 101, 114] : List UInt8) then (if bt617.1 = 1 then (if bt617.2.toList = ([] : List UInt8) then ((rights_Subject.f k y611 (⟨#[]⟩ : ByteArray)).bind fun t619 => (some (t619.toList == ([104, 105] : List UInt8)))) else (some false)) else (some false)) else (some false)) else (some false))) = some r := H; have A1 := Aside0.mk A10; clear A10; replace H := Option.bind_eq_some_iff.mp H; obtain ⟨⟨t617, t618⟩, A20, H⟩ := H; replace H : (if t615 = 2 then (if t616.toList = ([109, 101, 109, 98, 101, 114] : List UInt8) then (if t617 = 1 then (if t618.toList = ([] : List UInt8) then ((rights_Subject.f k y611 (⟨#[]⟩ : ByteArray)).bind fun t619 => (some (t619.toList == ([104, 105] : List UInt8)))) else (some false)) else (some false)) else (some false)) else (some false)) = some r := H; have A2 := Aside0.mk A20; clear A20
 by_cases c3 : t615 = 2
 ·rw [if_pos c3] at H; have c3b0 := beq_iff_eq.mpr c3; have c3b1 := bne_eq_false_iff_eq.mpr c3; clear c3
  by_cases c4 : t616.toList = ([109, 101, 109, 98, 101, 114] : List UInt8)
  ·rw [if_pos c4] at H; have c4b0 := beq_iff_eq.mpr c4; have c4b1 := bne_eq_false_iff_eq.mpr c4; clear c4
   by_cases c5 : t617 = 1
   ·rw [if_pos c5] at H; have c5b0 := beq_iff_eq.mpr c5; have c5b1 := bne_eq_false_iff_eq.mpr c5; clear c5
    by_cases c6 : t618.toList = ([] : List UInt8)
    ·rw [if_pos c6] at H; have c6b0 := beq_iff_eq.mpr c6; have c6b1 := bne_eq_false_iff_eq.mpr c6; clear c6; replace H := Option.bind_eq_some_iff.mp H; obtain ⟨t619, A70, H⟩ := H; have A7 := Aside0.mk A70; clear A70; obtain rfl := Option.some.inj H
     go_enter Tryz.func19, Tryz.ntmps19
     go_wp2_with (first | ((with_reducible refine gate_dst (N := 8) rfl ?_); refine Kd.R_lit k54 _ 54 ?hg (N := 8) ?hd (xs := ([(⟨(⟨#[70, 114, 111, 109]⟩ : ByteArray), (⟨#[97, 64, 98]⟩ : ByteArray)⟩ : S54), (⟨(⟨#[83, 117, 98, 106, 101, 99, 116]⟩ : ByteArray), (⟨#[104, 105]⟩ : ByteArray)⟩ : S54)] : List (S54))) (inner := [.string (⟨#[70, 114, 111, 109]⟩ : ByteArray), .string (⟨#[97, 64, 98]⟩ : ByteArray), .string (⟨#[83, 117, 98, 106, 101, 99, 116]⟩ : ByteArray), .string (⟨#[104, 105]⟩ : ByteArray)]) (ok := fun _ => True) (okp := fun _ => True) ?hr ?hp (fun _ hk => hk) trivial (Below.refl _ _) (Nat.le_refl _) (by simp) ?_; (case hd => rfl); (case hg => rfl); (case hr => first | (go_simp; done) | (go_simp; rfl)); (case hp => exact (Reps.c2 (show Kd.M k54 _ _ _ (⟨(⟨#[70, 114, 111, 109]⟩ : ByteArray), (⟨#[97, 64, 98]⟩ : ByteArray)⟩ : S54) [.string (⟨#[70, 114, 111, 109]⟩ : ByteArray), .string (⟨#[97, 64, 98]⟩ : ByteArray)] from (k54_mkM _ _ _ (⟨(⟨#[70, 114, 111, 109]⟩ : ByteArray), (⟨#[97, 64, 98]⟩ : ByteArray)⟩ : S54) )) (Reps.c2 (show Kd.M k54 _ _ _ (⟨(⟨#[83, 117, 98, 106, 101, 99, 116]⟩ : ByteArray), (⟨#[104, 105]⟩ : ByteArray)⟩ : S54) [.string (⟨#[83, 117, 98, 106, 101, 99, 116]⟩ : ByteArray), .string (⟨#[104, 105]⟩ : ByteArray)] from (k54_mkM _ _ _ (⟨(⟨#[83, 117, 98, 106, 101, 99, 116]⟩ : ByteArray), (⟨#[104, 105]⟩ : ByteArray)⟩ : S54) )) (Reps.none _ _)))); intro v612 w8 ho9 hb hg_ hnew_; clear hg_ hnew_; (first | rw [← Ny611.out] at ho9 | (simp only [Int.reduceToNat] at ho9; rw [← Ny611.out] at ho9)); have n0_ := Aside0.mk (Kd.R_lower ho9 (below_size bw)); have n1_ := Aside0.mk (below_step bw hb); clear HB; have HO613 := n0_; have HB := n1_; clear n0_ n1_; clear hb ho9; obtain ⟨Ao10, co10, eo10⟩ := Kd.R_slice HO613.out; subst eo10) | ((with_reducible refine gate_dst (N := 1) rfl ?_); refine box_event ?hg (N := 1) ?hd (cs := #[.slice none 0 0, .string (⟨#[]⟩ : ByteArray)]) (t := 28) ?hr ?_; (case hd => rfl); (case hg => rfl); (case hr => first | (go_simp; done) | (go_simp; rfl)); intro gb614 hg w11 hbox hb; have n0_ := Aside0.mk (Kd.R_below (ra HO613.out) hb); have n1_ := Aside0.mk (below_step bw hb); have n2_ := Aside0.mk (hbox); have n3_ := Aside0.mk ((by rw [hg]; exact (below_size bw) : w.heap.size ≤ gb614)); have n4_ := Aside0.mk ((by rw [hg]; exact (below_size bw) : w.heap.size ≤ gb614)); clear HO613; clear HB; have HO613 := n0_; have HB := n1_; have BK614 := n2_; have GW614 := n3_; have GE614 := n4_; clear n0_ n1_ n2_ n3_ n4_; clear hb hbox hg; obtain ⟨hcz12_0, hcz12_1⟩ := ce2 BK614; obtain ⟨hfz12_0, hfz12_1⟩ := fz2 BK614) | ((with_reducible refine gate_callee (f := 22) rfl ?_); refine goesL_ (some 13) rfl rfl Tryz.func22 (by kernel_rfl) rfl #[.string (⟨#[120, 46, 111, 114, 103]⟩ : ByteArray), .agg #[.string (⟨#[100, 101, 118]⟩ : ByteArray), .string (⟨#[]⟩ : ByteArray), .int .i64 2, .slice none 0 0, .slice none 0 0, .slice none 0 0, .int .i64 0, .int .i64 0, .bool false], .agg #[.slice Ao10 y611.length co10, .string (⟨#[]⟩ : ByteArray)], .bool false] rfl am ?_; (refine (rights_Judge.calls (hG := by first | exact hG | exact Glob.below hG (by first | exact HB.out | (repeat (first | (with_reducible first | exact HB.out | apply below_alloc | apply pw_below_drewN | apply below_drew1 | refine below_set ?_ GE614.out) | exact HB.out))) | exact Glob.drawn hG (d0)) (⟨#[120, 46, 111, 114, 103]⟩ : ByteArray) (⟨#[100, 101, 118]⟩ : ByteArray) (⟨#[]⟩ : ByteArray) 2 _ _ ([] : List (S30)) _ _ ([] : List (S30)) _ _ ([] : List (S30)) 0 0 false _ _ y611 (⟨#[]⟩ : ByteArray) false t615 t616 _ ?side1 ?side2 ?side3 ?side4 ?side5 ?side6 ?side7 ?side8 A1.out).mono ?_); (case side1 => exact Kd.C_nil _ _); (case side2 => exact Nat.le_refl _); (case side3 => exact Kd.C_nil _ _); (case side4 => exact Nat.le_refl _); (case side5 => exact Kd.C_nil _ _); (case side6 => exact Nat.le_refl _); (case side7 => refine (Kd.R_reads' (e := 54) (base := w.heap.size) (ok := fun k_ => True) (n := y611.length) (c := co10) ?_).2.2; exact (by (with_reducible repeat (first | apply Kd.R_alloc | apply Kd.R_drewN | apply Kd.R_drew)); exact (Kd.R_mono (Kd.R_far (p := ⟨gb614, 1, none⟩) (Kd.R_far (p := ⟨gb614, 0, none⟩) (Kd.R_types HO613.out BK614.out (by decide)) (fun _ hk => hk.2) (.slice Ao10 y611.length co10)) (fun _ hk => hk.2) (.string (⟨#[]⟩ : ByteArray))) (fun _ h_ => h_.1)))); (case side8 => exact (Kd.R_reads' HO613.out).2.1); rintro e w13 ⟨rfl, hb⟩; refine ⟨_, rfl, ?_⟩; have n0_ := Aside0.mk (Kd.R_below (by (with_reducible repeat (first | apply Kd.R_alloc | apply Kd.R_drewN | apply Kd.R_drew)); exact (Kd.R_mono (Kd.R_far (p := ⟨gb614, 1, none⟩) (Kd.R_far (p := ⟨gb614, 0, none⟩) (Kd.R_types HO613.out BK614.out (by decide)) (fun _ hk => hk.2) (.slice Ao10 y611.length co10)) (fun _ hk => hk.2) (.string (⟨#[]⟩ : ByteArray))) (fun _ h_ => h_.1))) hb); have n1_ := Aside0.mk (blk_below (g := gb614) (o := .cells #[.slice Ao10 y611.length co10, .string (⟨#[]⟩ : ByteArray)] 28 (0, 0)) (by (with_reducible repeat (first | refine blk_drewN ?_ _ | refine blk_drew ?_ | refine blk_alloc ?_ _)); refine blk_put (cs := #[.slice Ao10 y611.length co10, .string (⟨#[]⟩ : ByteArray)]) ?_ 1 _ rfl; (with_reducible repeat (first | refine blk_drewN ?_ _ | refine blk_drew ?_ | refine blk_alloc ?_ _)); exact blk_put (cs := #[.slice none 0 0, .string (⟨#[]⟩ : ByteArray)]) bk 0 _ rfl) hb); have n2_ := Aside0.mk (below_step bwS hb); clear HO613; clear BK614; clear HB; have HO613 := n0_; have BK614 := n1_; have HB := n2_; clear n0_ n1_ n2_; (try clear hb); (try clear hb2); (try clear hk); (try clear hi); obtain ⟨hcz14_0, hcz14_1⟩ := ce2 BK614; obtain ⟨hfz14_0, hfz14_1⟩ := fz2 BK614) | ((with_reducible refine gate_callee (f := 22) rfl ?_); refine goesL_ (some 19) rfl rfl Tryz.func22 (by kernel_rfl) rfl #[.string (⟨#[120, 46, 111, 114, 103]⟩ : ByteArray), .agg #[.string (⟨#[100, 101, 118]⟩ : ByteArray), .string (⟨#[]⟩ : ByteArray), .int .i64 2, .slice none 0 0, .slice none 0 0, .slice none 0 0, .int .i64 0, .int .i64 0, .bool false], .agg #[.slice Ao10 y611.length co10, .string (⟨#[]⟩ : ByteArray)], .bool true] rfl am ?_; (refine (rights_Judge.calls (hG := by first | exact hG | exact Glob.below hG (by first | exact HB.out | (repeat (first | (with_reducible first | exact HB.out | apply below_alloc | apply pw_below_drewN | apply below_drew1 | refine below_set ?_ GE614.out) | exact HB.out))) | exact Glob.drawn hG (d0)) (⟨#[120, 46, 111, 114, 103]⟩ : ByteArray) (⟨#[100, 101, 118]⟩ : ByteArray) (⟨#[]⟩ : ByteArray) 2 _ _ ([] : List (S30)) _ _ ([] : List (S30)) _ _ ([] : List (S30)) 0 0 false _ _ y611 (⟨#[]⟩ : ByteArray) true t617 t618 _ ?side1 ?side2 ?side3 ?side4 ?side5 ?side6 ?side7 ?side8 A2.out).mono ?_); (case side1 => exact Kd.C_nil _ _); (case side2 => exact Nat.le_refl _); (case side3 => exact Kd.C_nil _ _); (case side4 => exact Nat.le_refl _); (case side5 => exact Kd.C_nil _ _); (case side6 => exact Nat.le_refl _); (case side7 => repeat (first | exact (Kd.R_reads' HO613.out).2.2 | (with_reducible refine Kd.C_alloc ?_ _) | (with_reducible refine Kd.C_drewN ?_ _) | (with_reducible refine Kd.C_drew ?_))); (case side8 => exact (Kd.R_reads' HO613.out).2.1); rintro e w15 ⟨rfl, hb⟩; refine ⟨_, rfl, ?_⟩; have n0_ := Aside0.mk (Kd.R_below (ra HO613.out) hb); have n1_ := Aside0.mk (blk_below (g := gb614) (o := .cells #[.slice Ao10 y611.length co10, .string (⟨#[]⟩ : ByteArray)] 28 (0, 0)) bk hb); have n2_ := Aside0.mk (below_step bwS hb); clear HO613; clear BK614; clear HB; have HO613 := n0_; have BK614 := n1_; have HB := n2_; clear n0_ n1_ n2_; (try clear hb); (try clear hb2); (try clear hk); (try clear hi); obtain ⟨hcz16_0, hcz16_1⟩ := ce2 BK614; obtain ⟨hfz16_0, hfz16_1⟩ := fz2 BK614) | (go_at_call 24; (with_reducible refine (rights_Subject.calls (hG := by first | exact hG | exact Glob.below hG (by first | exact HB.out | (repeat (first | (with_reducible first | exact HB.out | apply below_alloc | apply pw_below_drewN | apply below_drew1 | refine below_set ?_ GE614.out) | exact HB.out))) | exact Glob.drawn hG (d0)) k _ _ y611 (⟨#[]⟩ : ByteArray) t619 _ ?side1 ?side2 A7.out).mono ?_); (case side1 => repeat (first | exact (Kd.R_reads' HO613.out).2.2 | (with_reducible refine Kd.C_alloc ?_ _) | (with_reducible refine Kd.C_drewN ?_ _) | (with_reducible refine Kd.C_drew ?_))); (case side2 => exact (Kd.R_reads' HO613.out).2.1); rintro e w17 ⟨rfl, hb⟩; have n0_ := Aside0.mk (Kd.R_below (ra HO613.out) hb); have n1_ := Aside0.mk (blk_below (g := gb614) (o := .cells #[.slice Ao10 y611.length co10, .string (⟨#[]⟩ : ByteArray)] 28 (0, 0)) bk hb); have n2_ := Aside0.mk (below_step bwS hb); clear HO613; clear BK614; clear HB; have HO613 := n0_; have BK614 := n1_; have HB := n2_; clear n0_ n1_ n2_; (try clear hb); (try clear hb2); (try clear hk); (try clear hi)))
     go_ret
     exact ⟨ew, bwS⟩
    rw [if_neg c6] at H; have c6b0 := beq_eq_false_iff_ne.mpr c6; have c6b1 := bne_iff_ne.mpr c6; obtain rfl := Option.some.inj H; exact absurd HT.out (by decide)
   rw [if_neg c5] at H; have c5b0 := beq_eq_false_iff_ne.mpr c5; have c5b1 := bne_iff_ne.mpr c5; obtain rfl := Option.some.inj H; exact absurd HT.out (by decide)
  rw [if_neg c4] at H; have c4b0 := beq_eq_false_iff_ne.mpr c4; have c4b1 := bne_iff_ne.mpr c4; obtain rfl := Option.some.inj H; exact absurd HT.out (by decide)
 rw [if_neg c3] at H; have c3b0 := beq_eq_false_iff_ne.mpr c3; have c3b1 := bne_iff_ne.mpr c3; obtain rfl := Option.some.inj H; exact absurd HT.out (by decide)
set_option maxRecDepth 100000 in
theorem bulletinlaw34_works.at_ : bulletinlaw34_works.f 100 = some true := by decide +kernel
theorem bulletinlaw34_works.yes (k : Nat) (r : Bool) (h : bulletinlaw34_works.f k = some r) : r = true := by
 have up : ∀ (d a : Nat) (x : Bool), bulletinlaw34_works.f a = some x → bulletinlaw34_works.f (a + d) = some x := fun d => by
  induction d with
  | zero => intro a x h; exact h
  | succ d ih => intro a x h; exact bulletinlaw34_works.mono (a + d) x (ih a x h)
 have h1 := up 100 k r h; have h2 := up k 100 true bulletinlaw34_works.at_; rw [Nat.add_comm] at h1; rw [h1] at h2; exact Option.some.inj h2
theorem bulletinlaw34_works.calls (k : Nat) (r : Bool) (w : World) (hG : Glob w) (h : bulletinlaw34_works.f k = some r) :
  Calls Tryz.prog 19 #[] w fun e w' => e = .returned (.bool r) ∧ Below w.heap.size w w' :=
 bulletinlaw34_works.callsT k r w hG h (bulletinlaw34_works.yes k r h)
def bulletinlaw34_RightsLoop.j0 : Nat → ByteArray → Bool → ByteArray → Bool → ByteArray → ByteArray → Int → List (S23) → List (S23) → List (S23) → Int → Int → Bool → List (S66) → ByteArray → Option (Bool)
 | 0, _, _, _, _, _, _, _, _, _, _, _, _, _, _, _ => none
 | k + 1, x0, x3, x4, x39, x634000, x634001, x634002, x634003, x634004, x634005, x634006, x634007, x634008, x635000, x635001 => if x39 = true then (some true) else ((bulletinlaw16_To.f k x635000 x635001).bind fun bt638 => (if x4.size + 1 ≤ 9223372036854775807 then ((rights_ID.f x634000 x0).bind fun t643 => (if (x4 ++ (⟨#[60]⟩ : ByteArray)).size + t643.size ≤ 9223372036854775807 then (if ((x4 ++ (⟨#[60]⟩ : ByteArray)) ++ t643).size + 1 ≤ 9223372036854775807 then (if bt638.1.length < 4398046511104 then ((bulletinlaw32_ToList.f k x634000 x634001 x634002 x634003 x634004 x634005 x634006 x634007 x634008).bind fun bt647 => ((rights_Judge.f x0 bt647.1 bt647.2.1 bt647.2.2.1 bt647.2.2.2.1 bt647.2.2.2.2.1 bt647.2.2.2.2.2.1 bt647.2.2.2.2.2.2.1 bt647.2.2.2.2.2.2.2.1 bt647.2.2.2.2.2.2.2.2 (bt638.1 ++ [(⟨(⟨#[76, 105, 115, 116, 45, 73, 100]⟩ : ByteArray), ((x4 ++ (⟨#[60]⟩ : ByteArray)) ++ t643) ++ (⟨#[62]⟩ : ByteArray)⟩ : S54)]) bt638.2 x3).bind fun bt662 => (if bt662.1 = 3 then (some (bt662.2.toList == ([108, 111, 111, 112] : List UInt8))) else (some false)))) else (none)) else (none)) else (none))) else (none)))
def bulletinlaw34_RightsLoop.f (k : Nat) (a0 : ByteArray) (a1_0 : ByteArray) (a1_1 : ByteArray) (a1_2 : Int) (l1_3 : List (S23)) (l1_4 : List (S23)) (l1_5 : List (S23)) (a1_6 : Int) (a1_7 : Int) (a1_8 : Bool) (l2_0 : List (S66)) (a2_1 : ByteArray) (a3 : Bool) (a4 : ByteArray) : Option (Bool) := (bulletinlaw34_works.f k).bind fun t635 => (if t635 = true then ((bulletinlaw16_Light.f k l2_0 a2_1).bind fun t636 => (if t636 = true then (if (l2_0.length : Int) > 29 then (bulletinlaw34_RightsLoop.j0 k a0 a3 a4 true a1_0 a1_1 a1_2 l1_3 l1_4 l1_5 a1_6 a1_7 a1_8 l2_0 a2_1) else ((bulletinlaw34_light.f k a1_0 a1_1 a1_2 l1_3 l1_4 l1_5 a1_6 a1_7 a1_8).bind fun t637 => (if t637 = true then (if (a0.size : Int) > 300 then (bulletinlaw34_RightsLoop.j0 k a0 a3 a4 true a1_0 a1_1 a1_2 l1_3 l1_4 l1_5 a1_6 a1_7 a1_8 l2_0 a2_1) else (bulletinlaw34_RightsLoop.j0 k a0 a3 a4 (decide ((a4.size : Int) > 300)) a1_0 a1_1 a1_2 l1_3 l1_4 l1_5 a1_6 a1_7 a1_8 l2_0 a2_1)) else (bulletinlaw34_RightsLoop.j0 k a0 a3 a4 true a1_0 a1_1 a1_2 l1_3 l1_4 l1_5 a1_6 a1_7 a1_8 l2_0 a2_1)))) else (bulletinlaw34_RightsLoop.j0 k a0 a3 a4 true a1_0 a1_1 a1_2 l1_3 l1_4 l1_5 a1_6 a1_7 a1_8 l2_0 a2_1))) else (some false))
def bulletinlaw34_RightsLoop.T6 : Bool × List (List Nat × List Nat) := (true, [([], []), ([0], [0]), ([], []), ([2], [2]), ([], []), ([4], [4]), ([], []), ([5, 6], [5, 6]), ([3, 7], [3, 7]), ([8], [8]), ([9], [9]), ([10], [10]), ([1, 11, 7], [1, 11]), ([0, 1, 2, 3, 4, 5, 6, 7, 8, 9, 10, 11, 12], []), ([13, 12, 12, 0, 1, 2, 3, 4, 5, 6, 7, 8, 9, 10, 11, 12], [12, 13])])
def bulletinlaw34_RightsLoop.B6 : List Nat := [0, 1, 0, 4, 0, 16, 0, 112, 252, 508, 1020, 2044, 4095, 8191, 16383]
theorem bulletinlaw34_RightsLoop.tab6 : rtab .any (opsOf Tryz.f5 6) = bulletinlaw34_RightsLoop.T6 := by kernel_rfl
theorem bulletinlaw34_RightsLoop.bits6 : waitsOk bulletinlaw34_RightsLoop.T6.2 bulletinlaw34_RightsLoop.B6 = true := by kernel_rfl
def bulletinlaw34_RightsLoop.T7 : Bool × List (List Nat × List Nat) := (true, [([], []), ([], []), ([1], [1]), ([], []), ([], []), ([0, 2, 3, 4, 2], [0, 2, 3, 4]), ([5], [5]), ([6], [6]), ([6], [6]), ([7, 5, 0, 1, 2, 3, 4, 5, 6, 7], [7]), ([8, 9, 0, 1, 2, 3, 4, 5, 6, 7, 8, 9], [8])])
def bulletinlaw34_RightsLoop.B7 : List Nat := [0, 0, 2, 0, 0, 31, 63, 127, 127, 255, 1023]
theorem bulletinlaw34_RightsLoop.tab7 : rtab .any (opsOf Tryz.f5 7) = bulletinlaw34_RightsLoop.T7 := by kernel_rfl
theorem bulletinlaw34_RightsLoop.bits7 : waitsOk bulletinlaw34_RightsLoop.T7.2 bulletinlaw34_RightsLoop.B7 = true := by kernel_rfl
set_option maxRecDepth 100000 in
theorem bulletinlaw34_RightsLoop.calls (k : Nat) (a0 : ByteArray) (a1_0 : ByteArray) (a1_1 : ByteArray) (a1_2 : Int) (A1_3 : Option Addr) (c1_3 : Nat) (l1_3 : List (S23)) (A1_4 : Option Addr) (c1_4 : Nat) (l1_4 : List (S23)) (A1_5 : Option Addr) (c1_5 : Nat) (l1_5 : List (S23)) (a1_6 : Int) (a1_7 : Int) (a1_8 : Bool) (A2_0 : Option Addr) (c2_0 : Nat) (l2_0 : List (S66)) (a2_1 : ByteArray) (a3 : Bool) (a4 : ByteArray) (r : Bool) (w : World) (hG : Glob w) (hr1_3 : Kd.C k23 w A1_3 l1_3.length l1_3) (hc1_3 : l1_3.length ≤ c1_3) (hr1_4 : Kd.C k23 w A1_4 l1_4.length l1_4) (hc1_4 : l1_4.length ≤ c1_4) (hr1_5 : Kd.C k23 w A1_5 l1_5.length l1_5) (hc1_5 : l1_5.length ≤ c1_5) (hr2_0 : Kd.C k66 w A2_0 l2_0.length l2_0) (hc2_0 : l2_0.length ≤ c2_0) (h : bulletinlaw34_RightsLoop.f k a0 a1_0 a1_1 a1_2 l1_3 l1_4 l1_5 a1_6 a1_7 a1_8 l2_0 a2_1 a3 a4 = some r) (hT : r = true) :
  Calls Tryz.prog 5 #[.string a0, .agg #[.string a1_0, .string a1_1, .int .i64 a1_2, .slice A1_3 l1_3.length c1_3, .slice A1_4 l1_4.length c1_4, .slice A1_5 l1_5.length c1_5, .int .i64 a1_6, .int .i64 a1_7, .bool a1_8], .agg #[.slice A2_0 l2_0.length c2_0, .string a2_1], .bool a3, .string a4] w fun e w' => e = .returned (.bool r) ∧ Below w.heap.size w w' := by
 have HT := Aside0.mk hT; clear hT; have hu39 := Tryz.underlying39; have hu34 := Tryz.underlying34; have hu28 := Tryz.underlying28; have hu54 := Tryz.underlying54; have HR1_3 := Aside0.mk hr1_3; have HC1_3 := Aside0.mk hc1_3; clear hr1_3 hc1_3; have HR1_4 := Aside0.mk hr1_4; have HC1_4 := Aside0.mk hc1_4; clear hr1_4 hc1_4; have HR1_5 := Aside0.mk hr1_5; have HC1_5 := Aside0.mk hc1_5; clear hr1_5 hc1_5; have HR2_0 := Aside0.mk hr2_0; have HC2_0 := Aside0.mk hc2_0; clear hr2_0 hc2_0; have HB := Aside0.mk (Below.refl w.heap.size w); have H : ((bulletinlaw34_works.f k).bind fun t635 => (if t635 = true then ((bulletinlaw16_Light.f k l2_0 a2_1).bind fun t636 => (if t636 = true then (if (l2_0.length : Int) > 29 then (bulletinlaw34_RightsLoop.j0 k a0 a3 a4 true a1_0 a1_1 a1_2 l1_3 l1_4 l1_5 a1_6 a1_7 a1_8 l2_0 a2_1) else ((bulletinlaw34_light.f k a1_0 a1_1 a1_2 l1_3 l1_4 l1_5 a1_6 a1_7 a1_8).bind fun t637 => (if t637 = true then (if (a0.size : Int) > 300 then (bulletinlaw34_RightsLoop.j0 k a0 a3 a4 true a1_0 a1_1 a1_2 l1_3 l1_4 l1_5 a1_6 a1_7 a1_8 l2_0 a2_1) else (bulletinlaw34_RightsLoop.j0 k a0 a3 a4 (decide ((a4.size : Int) > 300)) a1_0 a1_1 a1_2 l1_3 l1_4 l1_5 a1_6 a1_7 a1_8 l2_0 a2_1)) else (bulletinlaw34_RightsLoop.j0 k a0 a3 a4 true a1_0 a1_1 a1_2 l1_3 l1_4 l1_5 a1_6 a1_7 a1_8 l2_0 a2_1)))) else (bulletinlaw34_RightsLoop.j0 k a0 a3 a4 true a1_0 a1_1 a1_2 l1_3 l1_4 l1_5 a1_6 a1_7 a1_8 l2_0 a2_1))) else (some false))) = some r := h; clear h; replace H := Option.bind_eq_some_iff.mp H; obtain ⟨t635, A60, H⟩ := H; have A6 := Aside0.mk A60; clear A60
 by_cases c7 : t635 = true
 ·subst c7; rw [if_pos rfl] at H; have HC8 := Aside0.mk H; clear H
  go_enter Tryz.func5, Tryz.ntmps5
  go_upto_region 3 with (first | ((with_reducible refine gate_dst (N := 6) rfl ?_); (try (refine gate_guard (by rfl) ?_; dsimp only)); refine box_event ?hg (N := 6) ?hd (cs := #[.string a1_0, .string a1_1, .int .i64 a1_2, .slice A1_3 l1_3.length c1_3, .slice A1_4 l1_4.length c1_4, .slice A1_5 l1_5.length c1_5, .int .i64 a1_6, .int .i64 a1_7, .bool a1_8]) (t := 39) ?hr ?_; (case hd => rfl); (case hg => rfl); (case hr => first | (go_simp; done) | (go_simp; rfl)); intro gb633 hg w9 hbox hb; have n0_ := Aside0.mk (below_step bw hb); have n1_ := Aside0.mk (hbox); have n2_ := Aside0.mk ((by rw [hg]; exact (below_size bw) : w.heap.size ≤ gb633)); have n3_ := Aside0.mk ((by rw [hg]; exact (below_size bw) : w.heap.size ≤ gb633)); clear HB; have HB := n0_; have BK633 := n1_; have GW633 := n2_; have GE633 := n3_; clear n0_ n1_ n2_ n3_; clear hb hbox hg) | ((with_reducible refine gate_dst (N := 7) rfl ?_); (try (refine gate_guard (by rfl) ?_; dsimp only)); refine box_event ?hg (N := 7) ?hd (cs := #[.slice A2_0 l2_0.length c2_0, .string a2_1]) (t := 34) ?hr ?_; (case hd => rfl); (case hg => rfl); (case hr => first | (go_simp; done) | (go_simp; rfl)); intro gb634 hg w10 hbox hb; have n0_ := Aside0.mk (blk_below (g := gb633) (o := .cells #[.string a1_0, .string a1_1, .int .i64 a1_2, .slice A1_3 l1_3.length c1_3, .slice A1_4 l1_4.length c1_4, .slice A1_5 l1_5.length c1_5, .int .i64 a1_6, .int .i64 a1_7, .bool a1_8] 39 (0, 0)) bk hb); have n1_ := Aside0.mk (below_step bwS hb); have n2_ := Aside0.mk (hbox); have n3_ := Aside0.mk ((by rw [hg]; exact (below_size bwS) : w.heap.size ≤ gb634)); have n4_ := Aside0.mk ((by rw [hg]; exact (below_size bwS) : w.heap.size ≤ gb634)); have n5_ := Aside0.mk ((by rw [hg]; exact Nat.ne_of_lt (blk_lt (g := gb633) (o := .cells #[.string a1_0, .string a1_1, .int .i64 a1_2, .slice A1_3 l1_3.length c1_3, .slice A1_4 l1_4.length c1_4, .slice A1_5 l1_5.length c1_5, .int .i64 a1_6, .int .i64 a1_7, .bool a1_8] 39 (0, 0)) bk) : gb633 ≠ gb634)); have n6_ := Aside0.mk ((by rw [hg]; exact Nat.ne_of_gt (blk_lt (g := gb633) (o := .cells #[.string a1_0, .string a1_1, .int .i64 a1_2, .slice A1_3 l1_3.length c1_3, .slice A1_4 l1_4.length c1_4, .slice A1_5 l1_5.length c1_5, .int .i64 a1_6, .int .i64 a1_7, .bool a1_8] 39 (0, 0)) bk) : gb634 ≠ gb633)); clear BK633; clear HB; have BK633 := n0_; have HB := n1_; have BK634 := n2_; have GW634 := n3_; have GE634 := n4_; have NB633_634 := n5_; have NB634_633 := n6_; clear n0_ n1_ n2_ n3_ n4_ n5_ n6_; clear hb hbox hg) | ((with_reducible refine gate_callee (f := 19) rfl ?_); refine goesL_ (some 14) rfl rfl Tryz.func19 (by kernel_rfl) rfl #[] rfl am ?_; (with_reducible refine (bulletinlaw34_works.calls (hG := by first | exact hG | exact Glob.below hG (by first | exact HB.out | (repeat (first | (with_reducible first | exact HB.out | apply below_alloc | apply pw_below_drewN | apply below_drew1 | refine below_set ?_ GE633.out | refine below_set ?_ GE634.out | refine below_set ?_ GE642.out) | exact HB.out))) | exact Glob.drawn hG (d0)) k  true _ A6.out).mono ?_); rintro e w11 ⟨rfl, hb⟩; refine ⟨_, rfl, ?_⟩; have n0_ := Aside0.mk (blk_below (g := gb633) (o := .cells #[.string a1_0, .string a1_1, .int .i64 a1_2, .slice A1_3 l1_3.length c1_3, .slice A1_4 l1_4.length c1_4, .slice A1_5 l1_5.length c1_5, .int .i64 a1_6, .int .i64 a1_7, .bool a1_8] 39 (0, 0)) bk hb); have n1_ := Aside0.mk (blk_below (g := gb634) (o := .cells #[.slice A2_0 l2_0.length c2_0, .string a2_1] 34 (0, 0)) bk hb); have n2_ := Aside0.mk (below_step bwS hb); clear BK633; clear BK634; clear HB; have BK633 := n0_; have BK634 := n1_; have HB := n2_; clear n0_ n1_ n2_; (try clear hb); (try clear hb2); (try clear hk); (try clear hi)))
  (try simp only [Act.put, sa_, sz_, ss_])
  go_cut [39] (fun v39 wc => ∃ (kq : Nat) (x39_7 : Bool), v39 = .bool x39_7 ∧ Aside0 (bulletinlaw34_RightsLoop.j0 kq a0 a3 a4 x39_7 a1_0 a1_1 a1_2 l1_3 l1_4 l1_5 a1_6 a1_7 a1_8 l2_0 a2_1 = some r) ∧ Aside0 (kq ≤ k) ∧ Aside0 (wc.heap[gb633]? = some (.cells #[.string a1_0, .string a1_1, .int .i64 a1_2, (.slice A1_3 l1_3.length c1_3), (.slice A1_4 l1_4.length c1_4), (.slice A1_5 l1_5.length c1_5), .int .i64 a1_6, .int .i64 a1_7, .bool a1_8] 39 (0, 0))) ∧ Aside0 (wc.heap[gb634]? = some (.cells #[(.slice A2_0 l2_0.length c2_0), .string a2_1] 34 (0, 0))) ∧ Aside0 (Below w.heap.size w wc))
  case first =>
   have H := HC8.out; clear HC8; replace H := Option.bind_eq_some_iff.mp H; obtain ⟨t636, A120, H⟩ := H; have A12 := Aside0.mk A120; clear A120
   by_cases c13 : t636 = true
   ·subst c13; rw [if_pos rfl] at H
    by_cases c14 : (l2_0.length : Int) > 29
    ·rw [if_pos c14] at H; have c14b0 : decide (29 < (l2_0.length : Int)) = true := decide_eq_true c14; have c14b1 : decide (29 < l2_0.length) = true := decide_eq_true (by omega); clear c14
     (first | rw [c14b0] | (simp only [i64_w, i32_w]; rw [c14b0]) | skip)
     have H' := Aside0.mk H; clear H; have hnb15 := NB634_633.out; have hnc15 := NB633_634.out; obtain ⟨hcz16_0, hcz16_1, hfz16_0, hfz16_1⟩ := bk2 BK634.out
     go_wp2_with (first | ((with_reducible refine gate_callee (f := 12) rfl ?_); refine goesL_ (some 17) rfl rfl Tryz.func12 (by kernel_rfl) rfl #[.agg #[.slice A2_0 l2_0.length c2_0, .string a2_1]] rfl am ?_; (with_reducible refine (bulletinlaw16_Light.calls k _ _ l2_0 a2_1 true _ ?side1 ?side2 A12.out).mono ?_); (case side1 => repeat (first | exact (Kd.C_below HR2_0.out HB.out) | (with_reducible refine Kd.C_alloc ?_ _) | (with_reducible refine Kd.C_drewN ?_ _) | (with_reducible refine Kd.C_drew ?_))); (case side2 => exact HC2_0.out); rintro e w17 ⟨rfl, hb⟩; refine ⟨_, rfl, ?_⟩; have n0_ := Aside0.mk (blk_below (g := gb633) (o := .cells #[.string a1_0, .string a1_1, .int .i64 a1_2, .slice A1_3 l1_3.length c1_3, .slice A1_4 l1_4.length c1_4, .slice A1_5 l1_5.length c1_5, .int .i64 a1_6, .int .i64 a1_7, .bool a1_8] 39 (0, 0)) bk hb); have n1_ := Aside0.mk (blk_below (g := gb634) (o := .cells #[.slice A2_0 l2_0.length c2_0, .string a2_1] 34 (0, 0)) bk hb); have n2_ := Aside0.mk (below_step bwS hb); clear BK633; clear BK634; clear HB; have BK633 := n0_; have BK634 := n1_; have HB := n2_; clear n0_ n1_ n2_; (try clear hb); (try clear hb2); (try clear hk); (try clear hi); obtain ⟨hcz18_0, hcz18_1⟩ := ce2 BK634; obtain ⟨hfz18_0, hfz18_1⟩ := fz2 BK634))
     go_meet
     case rel => exact ⟨_, (true), cl, H', ⟨by first | omega | exact Nat.le_refl _⟩, ⟨bk⟩, ⟨bk⟩, ⟨bwS⟩⟩
    rw [if_neg c14] at H; have c14b0 : decide (29 < (l2_0.length : Int)) = false := decide_eq_false c14; have c14b1 : decide (29 < l2_0.length) = false := decide_eq_false (by omega); clear c14
    (first | rw [c14b0] | (simp only [i64_w, i32_w]; rw [c14b0]) | skip)
    replace H := Option.bind_eq_some_iff.mp H; obtain ⟨t637, A190, H⟩ := H; have A19 := Aside0.mk A190; clear A190
    by_cases c20 : t637 = true
    ·subst c20; rw [if_pos rfl] at H
     by_cases c21 : (a0.size : Int) > 300
     ·rw [if_pos c21] at H; have c21b0 : decide (300 < (a0.size : Int)) = true := decide_eq_true c21; have c21b1 : decide (300 < a0.size) = true := decide_eq_true (by omega); clear c21; have H' := Aside0.mk H; clear H; have hnb22 := NB634_633.out; have hnc22 := NB633_634.out; obtain ⟨hcz23_0, hcz23_1, hfz23_0, hfz23_1⟩ := bk2 BK634.out
      go_wp2_with (first | ((with_reducible refine gate_callee (f := 12) rfl ?_); refine goesL_ (some 17) rfl rfl Tryz.func12 (by kernel_rfl) rfl #[.agg #[.slice A2_0 l2_0.length c2_0, .string a2_1]] rfl am ?_; (with_reducible refine (bulletinlaw16_Light.calls k _ _ l2_0 a2_1 true _ ?side1 ?side2 A12.out).mono ?_); (case side1 => repeat (first | exact (Kd.C_below HR2_0.out HB.out) | (with_reducible refine Kd.C_alloc ?_ _) | (with_reducible refine Kd.C_drewN ?_ _) | (with_reducible refine Kd.C_drew ?_))); (case side2 => exact HC2_0.out); rintro e w24 ⟨rfl, hb⟩; refine ⟨_, rfl, ?_⟩; have n0_ := Aside0.mk (blk_below (g := gb633) (o := .cells #[.string a1_0, .string a1_1, .int .i64 a1_2, .slice A1_3 l1_3.length c1_3, .slice A1_4 l1_4.length c1_4, .slice A1_5 l1_5.length c1_5, .int .i64 a1_6, .int .i64 a1_7, .bool a1_8] 39 (0, 0)) bk hb); have n1_ := Aside0.mk (blk_below (g := gb634) (o := .cells #[.slice A2_0 l2_0.length c2_0, .string a2_1] 34 (0, 0)) bk hb); have n2_ := Aside0.mk (below_step bwS hb); clear BK633; clear BK634; clear HB; have BK633 := n0_; have BK634 := n1_; have HB := n2_; clear n0_ n1_ n2_; (try clear hb); (try clear hb2); (try clear hk); (try clear hi); obtain ⟨hcz25_0, hcz25_1⟩ := ce2 BK634; obtain ⟨hfz25_0, hfz25_1⟩ := fz2 BK634; obtain ⟨hcz26_0, hcz26_1, hcz26_2, hcz26_3, hcz26_4, hcz26_5, hcz26_6, hcz26_7, hcz26_8⟩ := ce9 BK633; obtain ⟨hfz26_0, hfz26_1, hfz26_2, hfz26_3, hfz26_4, hfz26_5, hfz26_6, hfz26_7, hfz26_8⟩ := fz9 BK633) | (go_at_call 20; (with_reducible refine (bulletinlaw34_light.calls k a1_0 a1_1 a1_2 (fun k_ => k_ < w.heap.size) _ _ l1_3 (fun k_ => k_ < w.heap.size) _ _ l1_4 (fun k_ => k_ < w.heap.size) _ _ l1_5 a1_6 a1_7 a1_8 true _ ?side1 ?side2 ?side3 A19.out).mono ?_); (case side1 => exact Kd.V_mk HC1_3.out (Kd.F_below (Kd.C_F k23_heap HR1_3.out) bwS)); (case side2 => exact Kd.V_mk HC1_4.out (Kd.F_below (Kd.C_F k23_heap HR1_4.out) bwS)); (case side3 => exact Kd.V_mk HC1_5.out (Kd.F_below (Kd.C_F k23_heap HR1_5.out) bwS)); rintro e w27 ⟨rfl, hb⟩; have n0_ := Aside0.mk (blk_below (g := gb633) (o := .cells #[.string a1_0, .string a1_1, .int .i64 a1_2, .slice A1_3 l1_3.length c1_3, .slice A1_4 l1_4.length c1_4, .slice A1_5 l1_5.length c1_5, .int .i64 a1_6, .int .i64 a1_7, .bool a1_8] 39 (0, 0)) bk hb); have n1_ := Aside0.mk (blk_below (g := gb634) (o := .cells #[.slice A2_0 l2_0.length c2_0, .string a2_1] 34 (0, 0)) bk hb); have n2_ := Aside0.mk (below_step bwS hb); clear BK633; clear BK634; clear HB; have BK633 := n0_; have BK634 := n1_; have HB := n2_; clear n0_ n1_ n2_; (try clear hb); (try clear hb2); (try clear hk); (try clear hi)))
      go_meet
      case rel => exact ⟨_, (true), cl, H', ⟨by first | omega | exact Nat.le_refl _⟩, ⟨bk⟩, ⟨bk⟩, ⟨bwS⟩⟩
     rw [if_neg c21] at H; have c21b0 : decide (300 < (a0.size : Int)) = false := decide_eq_false c21; have c21b1 : decide (300 < a0.size) = false := decide_eq_false (by omega); clear c21; have H' := Aside0.mk H; clear H; have hnb28 := NB634_633.out; have hnc28 := NB633_634.out; obtain ⟨hcz29_0, hcz29_1, hfz29_0, hfz29_1⟩ := bk2 BK634.out
     go_wp2_with (first | ((with_reducible refine gate_callee (f := 12) rfl ?_); refine goesL_ (some 17) rfl rfl Tryz.func12 (by kernel_rfl) rfl #[.agg #[.slice A2_0 l2_0.length c2_0, .string a2_1]] rfl am ?_; (with_reducible refine (bulletinlaw16_Light.calls k _ _ l2_0 a2_1 true _ ?side1 ?side2 A12.out).mono ?_); (case side1 => repeat (first | exact (Kd.C_below HR2_0.out HB.out) | (with_reducible refine Kd.C_alloc ?_ _) | (with_reducible refine Kd.C_drewN ?_ _) | (with_reducible refine Kd.C_drew ?_))); (case side2 => exact HC2_0.out); rintro e w30 ⟨rfl, hb⟩; refine ⟨_, rfl, ?_⟩; have n0_ := Aside0.mk (blk_below (g := gb633) (o := .cells #[.string a1_0, .string a1_1, .int .i64 a1_2, .slice A1_3 l1_3.length c1_3, .slice A1_4 l1_4.length c1_4, .slice A1_5 l1_5.length c1_5, .int .i64 a1_6, .int .i64 a1_7, .bool a1_8] 39 (0, 0)) bk hb); have n1_ := Aside0.mk (blk_below (g := gb634) (o := .cells #[.slice A2_0 l2_0.length c2_0, .string a2_1] 34 (0, 0)) bk hb); have n2_ := Aside0.mk (below_step bwS hb); clear BK633; clear BK634; clear HB; have BK633 := n0_; have BK634 := n1_; have HB := n2_; clear n0_ n1_ n2_; (try clear hb); (try clear hb2); (try clear hk); (try clear hi); obtain ⟨hcz31_0, hcz31_1⟩ := ce2 BK634; obtain ⟨hfz31_0, hfz31_1⟩ := fz2 BK634; obtain ⟨hcz32_0, hcz32_1, hcz32_2, hcz32_3, hcz32_4, hcz32_5, hcz32_6, hcz32_7, hcz32_8⟩ := ce9 BK633; obtain ⟨hfz32_0, hfz32_1, hfz32_2, hfz32_3, hfz32_4, hfz32_5, hfz32_6, hfz32_7, hfz32_8⟩ := fz9 BK633) | (go_at_call 20; (with_reducible refine (bulletinlaw34_light.calls k a1_0 a1_1 a1_2 (fun k_ => k_ < w.heap.size) _ _ l1_3 (fun k_ => k_ < w.heap.size) _ _ l1_4 (fun k_ => k_ < w.heap.size) _ _ l1_5 a1_6 a1_7 a1_8 true _ ?side1 ?side2 ?side3 A19.out).mono ?_); (case side1 => exact Kd.V_mk HC1_3.out (Kd.F_below (Kd.C_F k23_heap HR1_3.out) bwS)); (case side2 => exact Kd.V_mk HC1_4.out (Kd.F_below (Kd.C_F k23_heap HR1_4.out) bwS)); (case side3 => exact Kd.V_mk HC1_5.out (Kd.F_below (Kd.C_F k23_heap HR1_5.out) bwS)); rintro e w33 ⟨rfl, hb⟩; have n0_ := Aside0.mk (blk_below (g := gb633) (o := .cells #[.string a1_0, .string a1_1, .int .i64 a1_2, .slice A1_3 l1_3.length c1_3, .slice A1_4 l1_4.length c1_4, .slice A1_5 l1_5.length c1_5, .int .i64 a1_6, .int .i64 a1_7, .bool a1_8] 39 (0, 0)) bk hb); have n1_ := Aside0.mk (blk_below (g := gb634) (o := .cells #[.slice A2_0 l2_0.length c2_0, .string a2_1] 34 (0, 0)) bk hb); have n2_ := Aside0.mk (below_step bwS hb); clear BK633; clear BK634; clear HB; have BK633 := n0_; have BK634 := n1_; have HB := n2_; clear n0_ n1_ n2_; (try clear hb); (try clear hb2); (try clear hk); (try clear hi)))
     go_meet
     case rel => exact ⟨_, (decide ((a4.size : Int) > 300)), cl, H', ⟨by first | omega | exact Nat.le_refl _⟩, ⟨bk⟩, ⟨bk⟩, ⟨bwS⟩⟩
    replace c20 := Bool.eq_false_iff.mpr c20; subst c20; rw [if_neg nft] at H; have H' := Aside0.mk H; clear H; have hnb34 := NB634_633.out; have hnc34 := NB633_634.out; obtain ⟨hcz35_0, hcz35_1, hfz35_0, hfz35_1⟩ := bk2 BK634.out
    go_wp2_with (first | ((with_reducible refine gate_callee (f := 12) rfl ?_); refine goesL_ (some 17) rfl rfl Tryz.func12 (by kernel_rfl) rfl #[.agg #[.slice A2_0 l2_0.length c2_0, .string a2_1]] rfl am ?_; (with_reducible refine (bulletinlaw16_Light.calls k _ _ l2_0 a2_1 true _ ?side1 ?side2 A12.out).mono ?_); (case side1 => repeat (first | exact (Kd.C_below HR2_0.out HB.out) | (with_reducible refine Kd.C_alloc ?_ _) | (with_reducible refine Kd.C_drewN ?_ _) | (with_reducible refine Kd.C_drew ?_))); (case side2 => exact HC2_0.out); rintro e w36 ⟨rfl, hb⟩; refine ⟨_, rfl, ?_⟩; have n0_ := Aside0.mk (blk_below (g := gb633) (o := .cells #[.string a1_0, .string a1_1, .int .i64 a1_2, .slice A1_3 l1_3.length c1_3, .slice A1_4 l1_4.length c1_4, .slice A1_5 l1_5.length c1_5, .int .i64 a1_6, .int .i64 a1_7, .bool a1_8] 39 (0, 0)) bk hb); have n1_ := Aside0.mk (blk_below (g := gb634) (o := .cells #[.slice A2_0 l2_0.length c2_0, .string a2_1] 34 (0, 0)) bk hb); have n2_ := Aside0.mk (below_step bwS hb); clear BK633; clear BK634; clear HB; have BK633 := n0_; have BK634 := n1_; have HB := n2_; clear n0_ n1_ n2_; (try clear hb); (try clear hb2); (try clear hk); (try clear hi); obtain ⟨hcz37_0, hcz37_1⟩ := ce2 BK634; obtain ⟨hfz37_0, hfz37_1⟩ := fz2 BK634; obtain ⟨hcz38_0, hcz38_1, hcz38_2, hcz38_3, hcz38_4, hcz38_5, hcz38_6, hcz38_7, hcz38_8⟩ := ce9 BK633; obtain ⟨hfz38_0, hfz38_1, hfz38_2, hfz38_3, hfz38_4, hfz38_5, hfz38_6, hfz38_7, hfz38_8⟩ := fz9 BK633) | (go_at_call 20; (with_reducible refine (bulletinlaw34_light.calls k a1_0 a1_1 a1_2 (fun k_ => k_ < w.heap.size) _ _ l1_3 (fun k_ => k_ < w.heap.size) _ _ l1_4 (fun k_ => k_ < w.heap.size) _ _ l1_5 a1_6 a1_7 a1_8 false _ ?side1 ?side2 ?side3 A19.out).mono ?_); (case side1 => exact Kd.V_mk HC1_3.out (Kd.F_below (Kd.C_F k23_heap HR1_3.out) bwS)); (case side2 => exact Kd.V_mk HC1_4.out (Kd.F_below (Kd.C_F k23_heap HR1_4.out) bwS)); (case side3 => exact Kd.V_mk HC1_5.out (Kd.F_below (Kd.C_F k23_heap HR1_5.out) bwS)); rintro e w39 ⟨rfl, hb⟩; have n0_ := Aside0.mk (blk_below (g := gb633) (o := .cells #[.string a1_0, .string a1_1, .int .i64 a1_2, .slice A1_3 l1_3.length c1_3, .slice A1_4 l1_4.length c1_4, .slice A1_5 l1_5.length c1_5, .int .i64 a1_6, .int .i64 a1_7, .bool a1_8] 39 (0, 0)) bk hb); have n1_ := Aside0.mk (blk_below (g := gb634) (o := .cells #[.slice A2_0 l2_0.length c2_0, .string a2_1] 34 (0, 0)) bk hb); have n2_ := Aside0.mk (below_step bwS hb); clear BK633; clear BK634; clear HB; have BK633 := n0_; have BK634 := n1_; have HB := n2_; clear n0_ n1_ n2_; (try clear hb); (try clear hb2); (try clear hk); (try clear hi)))
    go_meet
    case rel => exact ⟨_, (true), cl, H', ⟨by first | omega | exact Nat.le_refl _⟩, ⟨bk⟩, ⟨bk⟩, ⟨bwS⟩⟩
   replace c13 := Bool.eq_false_iff.mpr c13; subst c13; rw [if_neg nft] at H; have H' := Aside0.mk H; clear H; have hnb40 := NB634_633.out; have hnc40 := NB633_634.out; obtain ⟨hcz41_0, hcz41_1, hfz41_0, hfz41_1⟩ := bk2 BK634.out
   go_wp2_with (first | ((with_reducible refine gate_callee (f := 12) rfl ?_); refine goesL_ (some 17) rfl rfl Tryz.func12 (by kernel_rfl) rfl #[.agg #[.slice A2_0 l2_0.length c2_0, .string a2_1]] rfl am ?_; (with_reducible refine (bulletinlaw16_Light.calls k _ _ l2_0 a2_1 false _ ?side1 ?side2 A12.out).mono ?_); (case side1 => repeat (first | exact (Kd.C_below HR2_0.out HB.out) | (with_reducible refine Kd.C_alloc ?_ _) | (with_reducible refine Kd.C_drewN ?_ _) | (with_reducible refine Kd.C_drew ?_))); (case side2 => exact HC2_0.out); rintro e w42 ⟨rfl, hb⟩; refine ⟨_, rfl, ?_⟩; have n0_ := Aside0.mk (blk_below (g := gb633) (o := .cells #[.string a1_0, .string a1_1, .int .i64 a1_2, .slice A1_3 l1_3.length c1_3, .slice A1_4 l1_4.length c1_4, .slice A1_5 l1_5.length c1_5, .int .i64 a1_6, .int .i64 a1_7, .bool a1_8] 39 (0, 0)) bk hb); have n1_ := Aside0.mk (blk_below (g := gb634) (o := .cells #[.slice A2_0 l2_0.length c2_0, .string a2_1] 34 (0, 0)) bk hb); have n2_ := Aside0.mk (below_step bwS hb); clear BK633; clear BK634; clear HB; have BK633 := n0_; have BK634 := n1_; have HB := n2_; clear n0_ n1_ n2_; (try clear hb); (try clear hb2); (try clear hk); (try clear hi)))
   go_meet
   case rel => exact ⟨_, (true), cl, H', ⟨by first | omega | exact Nat.le_refl _⟩, ⟨bk⟩, ⟨bk⟩, ⟨bwS⟩⟩
  case rest =>
   clear HC8; obtain ⟨kq, x39_7, rfl, HA, HJ7, BK633, BK634, HB⟩ := hcut; cases kq with
   | zero => exact absurd HA.out (by simp [bulletinlaw34_RightsLoop.j0])
   | succ kj7 =>
    have H := HA.out; clear HA; simp only [bulletinlaw34_RightsLoop.j0] at H
    by_cases c43 : x39_7 = true
    ·subst c43; rw [if_pos rfl] at H; obtain rfl := Option.some.inj H
     go_wp2
     go_ret
     exact ⟨ew, bwS⟩
    replace c43 := Bool.eq_false_iff.mpr c43; subst c43; rw [if_neg nft] at H; replace H := Option.bind_eq_some_iff.mp H; obtain ⟨⟨t638, t641⟩, A440, H⟩ := H; replace H : (if a4.size + 1 ≤ 9223372036854775807 then ((rights_ID.f a1_0 a0).bind fun t643 => (if (a4 ++ (⟨#[60]⟩ : ByteArray)).size + t643.size ≤ 9223372036854775807 then (if ((a4 ++ (⟨#[60]⟩ : ByteArray)) ++ t643).size + 1 ≤ 9223372036854775807 then (if t638.length < 4398046511104 then ((bulletinlaw32_ToList.f kj7 a1_0 a1_1 a1_2 l1_3 l1_4 l1_5 a1_6 a1_7 a1_8).bind fun bt647 => ((rights_Judge.f a0 bt647.1 bt647.2.1 bt647.2.2.1 bt647.2.2.2.1 bt647.2.2.2.2.1 bt647.2.2.2.2.2.1 bt647.2.2.2.2.2.2.1 bt647.2.2.2.2.2.2.2.1 bt647.2.2.2.2.2.2.2.2 (t638 ++ [(⟨(⟨#[76, 105, 115, 116, 45, 73, 100]⟩ : ByteArray), ((a4 ++ (⟨#[60]⟩ : ByteArray)) ++ t643) ++ (⟨#[62]⟩ : ByteArray)⟩ : S54)]) t641 a3).bind fun bt662 => (if bt662.1 = 3 then (some (bt662.2.toList == ([108, 111, 111, 112] : List UInt8))) else (some false)))) else (none)) else (none)) else (none))) else (none)) = some r := H; have A44 := Aside0.mk A440; clear A440
    by_cases c45 : a4.size + 1 ≤ 9223372036854775807
    ·rw [if_pos c45] at H; have c45b0 := eq_true c45; have c45b1 := decide_eq_true c45
     try have c45b2 : (9223372036854775807 < a4.size + 1) = False := eq_false (Nat.not_lt.2 c45)
     replace H := Option.bind_eq_some_iff.mp H; obtain ⟨t643, A460, H⟩ := H; have A46 := Aside0.mk A460; clear A460
     by_cases c47 : (a4 ++ (⟨#[60]⟩ : ByteArray)).size + t643.size ≤ 9223372036854775807
     ·rw [if_pos c47] at H; have c47b0 := eq_true c47; have c47b1 := decide_eq_true c47
      try have c47b2 : (9223372036854775807 < (a4 ++ (⟨#[60]⟩ : ByteArray)).size + t643.size) = False := eq_false (Nat.not_lt.2 c47)
      try (have c47b3 := c47; simp only [ByteArray.size_append, size_lit, ByteArray.size_extract, List.size_toArray, List.length_cons, List.length_nil, Nat.zero_add, Nat.reduceAdd] at c47b3; have c47b4 := eq_false (Nat.not_lt.2 c47b3))
      by_cases c48 : ((a4 ++ (⟨#[60]⟩ : ByteArray)) ++ t643).size + 1 ≤ 9223372036854775807
      ·rw [if_pos c48] at H; have c48b0 := eq_true c48; have c48b1 := decide_eq_true c48
       try have c48b2 : (9223372036854775807 < ((a4 ++ (⟨#[60]⟩ : ByteArray)) ++ t643).size + 1) = False := eq_false (Nat.not_lt.2 c48)
       try (have c48b3 := c48; simp only [ByteArray.size_append, size_lit, ByteArray.size_extract, List.size_toArray, List.length_cons, List.length_nil, Nat.zero_add, Nat.reduceAdd] at c48b3; have c48b4 := eq_false (Nat.not_lt.2 c48b3))
       by_cases c49 : t638.length < 4398046511104
       ·rw [if_pos c49] at H; have LMc49 := Aside0.mk c49; clear c49; obtain ⟨y644, hy644⟩ : ∃ y_ : List (S54), y_ = (t638 ++ [(⟨(⟨#[76, 105, 115, 116, 45, 73, 100]⟩ : ByteArray), ((a4 ++ (⟨#[60]⟩ : ByteArray)) ++ t643) ++ (⟨#[62]⟩ : ByteArray)⟩ : S54)]) := ⟨_, rfl⟩
        replace H : ((bulletinlaw32_ToList.f kj7 a1_0 a1_1 a1_2 l1_3 l1_4 l1_5 a1_6 a1_7 a1_8).bind fun bt647 => ((rights_Judge.f a0 bt647.1 bt647.2.1 bt647.2.2.1 bt647.2.2.2.1 bt647.2.2.2.2.1 bt647.2.2.2.2.2.1 bt647.2.2.2.2.2.2.1 bt647.2.2.2.2.2.2.2.1 bt647.2.2.2.2.2.2.2.2 y644 t641 a3).bind fun bt662 => (if bt662.1 = 3 then (some (bt662.2.toList == ([108, 111, 111, 112] : List UInt8))) else (some false)))) = some r := by first | (rw [hy644]; with_reducible exact H) | (have H2_ := (Option.bind_some _ _).symm.trans H; rw [hy644]; with_reducible exact H2_) | (have H2_ := (Option.bind_some _ _).symm.trans H; with_reducible exact H2_) | with_reducible exact H | (rw [hy644]; exact H) | exact H
        have Ny644 := Aside0.mk hy644; clear hy644; replace H := Option.bind_eq_some_iff.mp H; obtain ⟨⟨t647, t648, t649, t650, t653, t656, t659, t660, t661⟩, A500, H⟩ := H; replace H : ((rights_Judge.f a0 t647 t648 t649 t650 t653 t656 t659 t660 t661 y644 t641 a3).bind fun bt662 => (if bt662.1 = 3 then (some (bt662.2.toList == ([108, 111, 111, 112] : List UInt8))) else (some false))) = some r := H; have A50 := Aside0.mk A500; clear A500; replace H := Option.bind_eq_some_iff.mp H; obtain ⟨⟨t662, t663⟩, A510, H⟩ := H; replace H : (if t662 = 3 then (some (t663.toList == ([108, 111, 111, 112] : List UInt8))) else (some false)) = some r := H; have A51 := Aside0.mk A510; clear A510
        by_cases c52 : t662 = 3
        ·rw [if_pos c52] at H; have c52b0 := beq_iff_eq.mpr c52; have c52b1 := bne_eq_false_iff_eq.mpr c52; clear c52; obtain rfl := Option.some.inj H; have hnb53 := NB634_633.out; have hnc53 := NB633_634.out; obtain ⟨hcz54_0, hcz54_1, hfz54_0, hfz54_1⟩ := bk2 BK634.out
         try go_wp2_with (first | ((with_reducible refine gate_callee (f := 14) rfl ?_); refine goesL_ (some 41) rfl rfl Tryz.func14 (by kernel_rfl) rfl #[.agg #[.slice A2_0 l2_0.length c2_0, .string a2_1]] rfl am ?_; (with_reducible refine (bulletinlaw16_To.calls kj7 _ _ l2_0 a2_1 t638 t641 _ ?side1 ?side2 A44.out).mono ?_); (case side1 => repeat (first | exact (Kd.C_below HR2_0.out HB.out) | (with_reducible refine Kd.C_alloc ?_ _) | (with_reducible refine Kd.C_drewN ?_ _) | (with_reducible refine Kd.C_drew ?_))); (case side2 => exact HC2_0.out); rintro e w55 ⟨v639, rfl, ho0, hb⟩; refine ⟨_, rfl, ?_⟩; have n0_ := Aside0.mk (Kd.R_lower ho0 (below_size bwS)); have n1_ := Aside0.mk (blk_below (g := gb633) (o := .cells #[.string a1_0, .string a1_1, .int .i64 a1_2, .slice A1_3 l1_3.length c1_3, .slice A1_4 l1_4.length c1_4, .slice A1_5 l1_5.length c1_5, .int .i64 a1_6, .int .i64 a1_7, .bool a1_8] 39 (0, 0)) bk hb); have n2_ := Aside0.mk (blk_below (g := gb634) (o := .cells #[.slice A2_0 l2_0.length c2_0, .string a2_1] 34 (0, 0)) bk hb); have n3_ := Aside0.mk (below_step bwS hb); clear BK633; clear BK634; clear HB; have HO640 := n0_; have BK633 := n1_; have BK634 := n2_; have HB := n3_; clear n0_ n1_ n2_ n3_; (try clear hb); (try clear hb2); (try clear hk); (try clear hi); (try clear ho0)) | ((with_reducible refine gate_dst (N := 11) rfl ?_); (try (refine gate_guard (by rfl) ?_; dsimp only)); refine box_event ?hg (N := 11) ?hd (cs := #[.slice none 0 0, .string (⟨#[]⟩ : ByteArray)]) (t := 28) ?hr ?_; (case hd => rfl); (case hg => rfl); (case hr => first | (go_simp; done) | (go_simp; rfl)); intro gb642 hg w56 hbox hb; have n0_ := Aside0.mk (Kd.R_below (ra HO640.out) hb); have n1_ := Aside0.mk (blk_below (g := gb633) (o := .cells #[.string a1_0, .string a1_1, .int .i64 a1_2, .slice A1_3 l1_3.length c1_3, .slice A1_4 l1_4.length c1_4, .slice A1_5 l1_5.length c1_5, .int .i64 a1_6, .int .i64 a1_7, .bool a1_8] 39 (0, 0)) bk hb); have n2_ := Aside0.mk (blk_below (g := gb634) (o := .cells #[.slice A2_0 l2_0.length c2_0, .string a2_1] 34 (0, 0)) bk hb); have n3_ := Aside0.mk (below_step bwS hb); have n4_ := Aside0.mk (hbox); have n5_ := Aside0.mk ((by rw [hg]; exact (below_size bwS) : w.heap.size ≤ gb642)); have n6_ := Aside0.mk ((by rw [hg]; exact (below_size bwS) : w.heap.size ≤ gb642)); have n7_ := Aside0.mk ((by rw [hg]; exact Nat.ne_of_lt (blk_lt (g := gb633) (o := .cells #[.string a1_0, .string a1_1, .int .i64 a1_2, .slice A1_3 l1_3.length c1_3, .slice A1_4 l1_4.length c1_4, .slice A1_5 l1_5.length c1_5, .int .i64 a1_6, .int .i64 a1_7, .bool a1_8] 39 (0, 0)) bk) : gb633 ≠ gb642)); have n8_ := Aside0.mk ((by rw [hg]; exact Nat.ne_of_gt (blk_lt (g := gb633) (o := .cells #[.string a1_0, .string a1_1, .int .i64 a1_2, .slice A1_3 l1_3.length c1_3, .slice A1_4 l1_4.length c1_4, .slice A1_5 l1_5.length c1_5, .int .i64 a1_6, .int .i64 a1_7, .bool a1_8] 39 (0, 0)) bk) : gb642 ≠ gb633)); have n9_ := Aside0.mk ((by rw [hg]; exact Nat.ne_of_lt (blk_lt (g := gb634) (o := .cells #[.slice A2_0 l2_0.length c2_0, .string a2_1] 34 (0, 0)) bk) : gb634 ≠ gb642)); have n10_ := Aside0.mk ((by rw [hg]; exact Nat.ne_of_gt (blk_lt (g := gb634) (o := .cells #[.slice A2_0 l2_0.length c2_0, .string a2_1] 34 (0, 0)) bk) : gb642 ≠ gb634)); clear HO640; clear BK633; clear BK634; clear HB; have HO640 := n0_; have BK633 := n1_; have BK634 := n2_; have HB := n3_; have BK642 := n4_; have GW642 := n5_; have GE642 := n6_; have NB633_642 := n7_; have NB642_633 := n8_; have NB634_642 := n9_; have NB642_634 := n10_; clear n0_ n1_ n2_ n3_ n4_ n5_ n6_ n7_ n8_ n9_ n10_; clear hb hbox hg; obtain ⟨Ao57, co57, eo57⟩ := Kd.R_slice HO640.out; subst eo57; have hnb58 := NB642_633.out; have hnc58 := NB633_642.out; have hnb59 := NB642_634.out; have hnc59 := NB634_642.out; obtain ⟨hcz60_0, hcz60_1⟩ := ce2 BK642; obtain ⟨hfz60_0, hfz60_1⟩ := fz2 BK642))
         have n0_ : Aside0 (Kd.R k54 54 ((w56.setCell ⟨gb642, 0, none⟩ (.slice Ao57 t638.length co57)).setCell ⟨gb642, 1, none⟩ (.string t641)) w.heap.size (fun _ => True) (.slice Ao57 t638.length co57) t638) := ⟨by (with_reducible repeat (first | apply Kd.R_alloc | apply Kd.R_drewN | apply Kd.R_drew)); exact Kd.R_mono (Kd.R_far (p := ⟨gb642, 1, none⟩) (Kd.R_far (p := ⟨gb642, 0, none⟩) (Kd.R_types HO640.out BK642.out (by decide)) (fun _ hk => hk.2) (.slice Ao57 t638.length co57)) (fun _ hk => hk.2) (.string t641)) (fun _ hk => trivial)⟩
         have n1_ : Aside0 (((w56.setCell ⟨gb642, 0, none⟩ (.slice Ao57 t638.length co57)).setCell ⟨gb642, 1, none⟩ (.string t641)).heap[gb633]? = some (.cells #[.string a1_0, .string a1_1, .int .i64 a1_2, .slice A1_3 l1_3.length c1_3, .slice A1_4 l1_4.length c1_4, .slice A1_5 l1_5.length c1_5, .int .i64 a1_6, .int .i64 a1_7, .bool a1_8] 39 (0, 0))) := ⟨by (with_reducible repeat (first | refine blk_drewN ?_ _ | refine blk_drew ?_ | refine blk_alloc ?_ _)); refine blk_far ?_ NB633_642.out _; (with_reducible repeat (first | refine blk_drewN ?_ _ | refine blk_drew ?_ | refine blk_alloc ?_ _)); refine blk_far ?_ NB633_642.out _; (with_reducible repeat (first | refine blk_drewN ?_ _ | refine blk_drew ?_ | refine blk_alloc ?_ _)); exact BK633.out⟩
         have n2_ : Aside0 (((w56.setCell ⟨gb642, 0, none⟩ (.slice Ao57 t638.length co57)).setCell ⟨gb642, 1, none⟩ (.string t641)).heap[gb634]? = some (.cells #[.slice A2_0 l2_0.length c2_0, .string a2_1] 34 (0, 0))) := ⟨by (with_reducible repeat (first | refine blk_drewN ?_ _ | refine blk_drew ?_ | refine blk_alloc ?_ _)); refine blk_far ?_ NB634_642.out _; (with_reducible repeat (first | refine blk_drewN ?_ _ | refine blk_drew ?_ | refine blk_alloc ?_ _)); refine blk_far ?_ NB634_642.out _; (with_reducible repeat (first | refine blk_drewN ?_ _ | refine blk_drew ?_ | refine blk_alloc ?_ _)); exact BK634.out⟩
         have n3_ : Aside0 (((w56.setCell ⟨gb642, 0, none⟩ (.slice Ao57 t638.length co57)).setCell ⟨gb642, 1, none⟩ (.string t641)).heap[gb642]? = some (.cells #[.slice Ao57 t638.length co57, .string t641] 28 (0, 0))) := ⟨by (with_reducible repeat (first | refine blk_drewN ?_ _ | refine blk_drew ?_ | refine blk_alloc ?_ _)); refine blk_put (cs := #[.slice Ao57 t638.length co57, .string (⟨#[]⟩ : ByteArray)]) ?_ 1 _ rfl; (with_reducible repeat (first | refine blk_drewN ?_ _ | refine blk_drew ?_ | refine blk_alloc ?_ _)); exact blk_put (cs := #[.slice none 0 0, .string (⟨#[]⟩ : ByteArray)]) bk 0 _ rfl⟩
         have n4_ : Aside0 (Below w.heap.size w ((w56.setCell ⟨gb642, 0, none⟩ (.slice Ao57 t638.length co57)).setCell ⟨gb642, 1, none⟩ (.string t641))) := ⟨bwS⟩
         (try clear HO640)
         (try clear BK633)
         (try clear BK634)
         (try clear BK642)
         (try clear HB)
         generalize ((w56.setCell ⟨gb642, 0, none⟩ (.slice Ao57 t638.length co57)).setCell ⟨gb642, 1, none⟩ (.string t641)) = w61 at n0_ n1_ n2_ n3_ n4_ ⊢
         have HO640 := n0_; have BK633 := n1_; have BK634 := n2_; have BK642 := n3_; have HB := n4_; clear n0_ n1_ n2_ n3_ n4_; have n0_ := Aside0.mk (Kd.R_drew HO640.out); have n1_ := Aside0.mk (blk_drew BK633.out); have n2_ := Aside0.mk (blk_drew BK634.out); have n3_ := Aside0.mk (blk_drew BK642.out); have n4_ := Aside0.mk (below_drew1 HB.out); clear HO640 BK633 BK634 BK642 HB; have HO640 := n0_; have BK633 := n1_; have BK634 := n2_; have BK642 := n3_; have HB := n4_; clear n0_ n1_ n2_ n3_ n4_; refine start_ (n := 15) (S := fun w' => w'.cell? ⟨gb642, 0, none⟩ = some (.slice Ao57 t638.length co57) ∧ w'.cell? ⟨gb642, 1, none⟩ = some (.string t641) ∧ w'.cell? ⟨gb633, 0, none⟩ = some (.string a1_0) ∧ w'.cell? ⟨gb633, 1, none⟩ = some (.string a1_1) ∧ w'.cell? ⟨gb633, 2, none⟩ = some (.int .i64 a1_2) ∧ w'.cell? ⟨gb633, 3, none⟩ = some (.slice A1_3 l1_3.length c1_3) ∧ w'.cell? ⟨gb633, 4, none⟩ = some (.slice A1_4 l1_4.length c1_4) ∧ w'.cell? ⟨gb633, 5, none⟩ = some (.slice A1_5 l1_5.length c1_5) ∧ w'.cell? ⟨gb633, 6, none⟩ = some (.int .i64 a1_6) ∧ w'.cell? ⟨gb633, 7, none⟩ = some (.int .i64 a1_7) ∧ w'.cell? ⟨gb633, 8, none⟩ = some (.bool a1_8)) (ds := [14]) #[false, false, false, false, false, false, false, false, false, false, false, false, false, false, false] (by kernel_rfl) rfl rfl ⟨(blk_cell BK642.out 0).trans rfl, (blk_cell BK642.out 1).trans rfl, (blk_cell BK633.out 0).trans rfl, (blk_cell BK633.out 1).trans rfl, (blk_cell BK633.out 2).trans rfl, (blk_cell BK633.out 3).trans rfl, (blk_cell BK633.out 4).trans rfl, (blk_cell BK633.out 5).trans rfl, (blk_cell BK633.out 6).trans rfl, (blk_cell BK633.out 7).trans rfl, (blk_cell BK633.out 8).trans rfl⟩ (fun hHeld => ?_); refine with_tabW bulletinlaw34_RightsLoop.tab6 bulletinlaw34_RightsLoop.bits6 (fun HT_ HW_ => ?_)
         generalize w61.drew = w62 at HO640 BK633 BK634 BK642 HB hHeld ⊢
         refine pure_ (i := 0) (N := some 42) (v := ?_) (a' := ?_) (bitsL 15 1) rfl rfl (any_of HT_.out (by kernel_rfl)) (fun _ _ _ h => h) (Or.inl ⟨by rfl, ?_⟩) ?_ ?_; rotate_left
         ·intro w'; go_simp; with_reducible rfl
         rotate_left
         ·simp only [Act.put, sa_, sz_, ss_, i64_w, i32_w]; rfl
         refine pure_ (i := 2) (N := some 44) (v := ?_) (a' := ?_) (bitsL 15 5) rfl rfl (any_of HT_.out (by kernel_rfl)) (fun _ _ _ h => h) (Or.inl ⟨by rfl, ?_⟩) ?_ ?_; rotate_left
         ·intro w'; go_simp; with_reducible rfl
         rotate_left
         ·simp only [Act.put, sa_, sz_, ss_, i64_w, i32_w]; rfl
         refine pure_ (i := 3) (N := some 45) (v := ?_) (a' := ?_) (bitsL 15 13) rfl rfl (any_of HT_.out (by kernel_rfl)) (fun _ _ _ h => h) (Or.inl ⟨by rfl, ?_⟩) ?_ ?_; rotate_left
         ·intro w'; go_simp; with_reducible rfl
         rotate_left
         ·simp only [Act.put, sa_, sz_, ss_, i64_w, i32_w]; rfl
         refine pure_ (i := 4) (N := some 46) (v := ?_) (a' := ?_) (bitsL 15 29) rfl rfl (any_of HT_.out (by kernel_rfl)) (fun _ _ _ h => h) (Or.inl ⟨by rfl, ?_⟩) ?_ ?_; rotate_left
         ·intro w'; go_simp; with_reducible rfl
         rotate_left
         ·simp only [Act.put, sa_, sz_, ss_, i64_w, i32_w]; rfl
         refine pure_ (i := 6) (N := some 48) (v := ?_) (a' := ?_) (bitsL 15 93) rfl rfl (any_of HT_.out (by kernel_rfl)) (fun _ _ _ h => h) (Or.inl ⟨by rfl, ?_⟩) ?_ ?_; rotate_left
         ·intro w'; go_simp; with_reducible rfl
         rotate_left
         ·simp only [Act.put, sa_, sz_, ss_, i64_w, i32_w]; rfl
         refine take_ (i := 1) (N := some 43) (v := ?_) (a' := ?_) (bitsL 15 95) rfl rfl (take_ofW HT_.out HW_.out (by kernel_rfl)) (fun _ _ _ h => h) (Or.inl ⟨by rfl, ?_⟩) hHeld ?_ ?_; rotate_left
         ·rintro w' ⟨s0, s1, s2, s3, s4, s5, s6, s7, s8, s9, s10⟩; go_simp; with_reducible rfl
         rotate_left
         ·simp only [Act.put, sa_, sz_, ss_, i64_w, i32_w]; rfl
         refine take_ (i := 5) (N := some 47) (v := ?_) (a' := ?_) (bitsL 15 127) rfl rfl (take_ofW HT_.out HW_.out (by kernel_rfl)) (fun _ _ _ h => h) (Or.inl ⟨by rfl, ?_⟩) hHeld ?_ ?_; rotate_left
         ·rintro w' ⟨s0, s1, s2, s3, s4, s5, s6, s7, s8, s9, s10⟩; go_simp; with_reducible rfl
         rotate_left
         ·simp only [Act.put, sa_, sz_, ss_, i64_w, i32_w]; rfl
         refine one_ (i := 7) (N := some 49) (bitsL 15 255) rfl rfl (one_of HT_.out (by kernel_rfl)) (by decide) (fun K hK => ?_); refine goes_ Tryz.func21 (by kernel_rfl) rfl #[.string a1_0, .string a0] (by rfl) rfl rfl am ?_; with_reducible refine (rights_ID.calls a1_0 a0 t643 _ A46.out).mono ?_
         rintro e w' ⟨rfl, ⟨nd, rfl⟩⟩; refine ⟨_, rfl, ?_⟩; refine hK.out _ _ ⟨(blk_cell BK642.out 0).trans rfl, (blk_cell BK642.out 1).trans rfl, (blk_cell BK633.out 0).trans rfl, (blk_cell BK633.out 1).trans rfl, (blk_cell BK633.out 2).trans rfl, (blk_cell BK633.out 3).trans rfl, (blk_cell BK633.out 4).trans rfl, (blk_cell BK633.out 5).trans rfl, (blk_cell BK633.out 6).trans rfl, (blk_cell BK633.out 7).trans rfl, (blk_cell BK633.out 8).trans rfl⟩ (fun hHeld => ?_); clear hK K; refine norm_ (a' := ?_) ?_ ?_; rotate_left
         ·show Act.put _ (some 49) _ = _
          simp only [Act.put, sa_, sz_, ss_, i64_w, i32_w]; rfl
         refine pure_ (i := 8) (N := some 50) (v := ?_) (a' := ?_) (bitsL 15 511) rfl rfl (any_of HT_.out (by kernel_rfl)) (fun _ _ _ h => h) (Or.inl ⟨by rfl, ?_⟩) ?_ ?_; rotate_left
         ·intro w'; go_simp; with_reducible rfl
         rotate_left
         ·simp only [Act.put, sa_, sz_, ss_, i64_w, i32_w]; rfl
         refine pure_ (i := 9) (N := some 51) (v := ?_) (a' := ?_) (bitsL 15 1023) rfl rfl (any_of HT_.out (by kernel_rfl)) (fun _ _ _ h => h) (Or.inl ⟨by rfl, ?_⟩) ?_ ?_; rotate_left
         ·intro w'; go_simp; with_reducible rfl
         rotate_left
         ·simp only [Act.put, sa_, sz_, ss_, i64_w, i32_w]; rfl
         refine pure_ (i := 10) (N := some 52) (v := ?_) (a' := ?_) (bitsL 15 2047) rfl rfl (any_of HT_.out (by kernel_rfl)) (fun _ _ _ h => h) (Or.inl ⟨by rfl, ?_⟩) ?_ ?_; rotate_left
         ·intro w'; go_simp; with_reducible rfl
         rotate_left
         ·simp only [Act.put, sa_, sz_, ss_, i64_w, i32_w]; rfl
         refine one_ (i := 11) (N := some 53) (bitsL 15 4095) rfl rfl (one_of HT_.out (by kernel_rfl)) (by decide) (fun K hK => ?_); refine value_ (w1 := ?_) (v := ?_) (by rfl) rfl ?_ ?_; rotate_left 2
         ·go_simp
          constructor
          ·rfl
          rfl
         refine hK.out _ _ ⟨(blk_cell (blk_alloc BK642.out _) 0).trans rfl, (blk_cell (blk_alloc BK642.out _) 1).trans rfl, (blk_cell (blk_alloc BK633.out _) 0).trans rfl, (blk_cell (blk_alloc BK633.out _) 1).trans rfl, (blk_cell (blk_alloc BK633.out _) 2).trans rfl, (blk_cell (blk_alloc BK633.out _) 3).trans rfl, (blk_cell (blk_alloc BK633.out _) 4).trans rfl, (blk_cell (blk_alloc BK633.out _) 5).trans rfl, (blk_cell (blk_alloc BK633.out _) 6).trans rfl, (blk_cell (blk_alloc BK633.out _) 7).trans rfl, (blk_cell (blk_alloc BK633.out _) 8).trans rfl⟩ (fun hHeld => ?_); clear hK K; refine norm_ (a' := ?_) ?_ ?_; rotate_left
         ·show Act.put _ (some 53) _ = _
          simp only [Act.put, sa_, sz_, ss_, i64_w, i32_w]; rfl
         refine one_ (i := 12) (N := some 54) (bitsL 15 8191) rfl rfl (one_of HT_.out (by kernel_rfl)) (by decide) (fun K hK => ?_); refine Kd.R_append_step k54 (w0 := w) w.heap.size (by rfl) (.tmp 43) (.tmp 53) 26 54 (.agg #[(.string ⟨#[]⟩), (.string ⟨#[]⟩)]) 32 rfl Tryz.underlying26 info54 rfl (by decide) (by omega) (.slice Ao57 t638.length co57) t638 (⟨(⟨#[76, 105, 115, 116, 45, 73, 100]⟩ : ByteArray), ((a4 ++ (⟨#[60]⟩ : ByteArray)) ++ t643) ++ (⟨#[62]⟩ : ByteArray)⟩ : S54) [.string (⟨#[76, 105, 115, 116, 45, 73, 100]⟩ : ByteArray), .string (((a4 ++ (⟨#[60]⟩ : ByteArray)) ++ t643) ++ (⟨#[62]⟩ : ByteArray))] (fun _ => True) (fun _ => False) rfl rfl ?aP (fun _ hk => hk.elim) ?aF ?aO ?aB ?aS ?aL ?_
         (case aP => exact k54_mkM _ _ _ (⟨(⟨#[76, 105, 115, 116, 45, 73, 100]⟩ : ByteArray), ((a4 ++ (⟨#[60]⟩ : ByteArray)) ++ t643) ++ (⟨#[62]⟩ : ByteArray)⟩ : S54))
         (case aB => exact bwS)
         (case aF => exact (fun _ _ => trivial))
         (case aO => exact (ra HO640.out))
         (case aS => exact (below_size bwS))
         (case aL => have := LMc49.out; omega)
         intro v645 w63 ho hb hg hat; rw [← Ny644.out] at ho; have n0_ := Aside0.mk (blk_grown (g := gb633) (o := .cells #[.string a1_0, .string a1_1, .int .i64 a1_2, .slice A1_3 l1_3.length c1_3, .slice A1_4 l1_4.length c1_4, .slice A1_5 l1_5.length c1_5, .int .i64 a1_6, .int .i64 a1_7, .bool a1_8] 39 (0, 0)) bk hg (Kd.R_ne HO640.out BK633.out (by decide))); have n1_ := Aside0.mk (blk_grown (g := gb634) (o := .cells #[.slice A2_0 l2_0.length c2_0, .string a2_1] 34 (0, 0)) bk hg (Kd.R_ne HO640.out BK634.out (by decide))); have n2_ := Aside0.mk (blk_grown (g := gb642) (o := .cells #[.slice Ao57 t638.length co57, .string t641] 28 (0, 0)) bk hg (Kd.R_ne HO640.out BK642.out (by decide))); have n3_ := Aside0.mk (hb); have n4_ := Aside0.mk (ho); clear BK633 BK634 BK642 HB HO640; have BK633 := n0_; have BK634 := n1_; have BK642 := n2_; have HB := n3_; have HO646 := n4_; clear n0_ n1_ n2_ n3_ n4_ ho hb hg hat; obtain ⟨Ao64, co64, eo64⟩ := Kd.R_slice HO646.out
         (first | subst eo64 | (injection eo64 with f1_ f2_ f3_; have f4_ := f1_.symm; have f5_ := f3_.symm; clear f1_ f2_ f3_; subst f4_; subst f5_))
         refine hK.out _ _ ⟨(blk_cell BK642.out 0).trans rfl, (blk_cell BK642.out 1).trans rfl, (blk_cell BK633.out 0).trans rfl, (blk_cell BK633.out 1).trans rfl, (blk_cell BK633.out 2).trans rfl, (blk_cell BK633.out 3).trans rfl, (blk_cell BK633.out 4).trans rfl, (blk_cell BK633.out 5).trans rfl, (blk_cell BK633.out 6).trans rfl, (blk_cell BK633.out 7).trans rfl, (blk_cell BK633.out 8).trans rfl⟩ (fun hHeld => ?_); clear hK K; refine norm_ (a' := ?_) ?_ ?_; rotate_left
         ·show Act.put _ (some 54) _ = _
          simp only [Act.put, sa_, sz_, ss_, i64_w, i32_w]; rfl
         refine pure_ (i := 13) (N := some 55) (v := ?_) (a' := ?_) (bitsL 15 16383) rfl rfl (any_of HT_.out (by kernel_rfl)) (fun _ _ _ h => h) (Or.inl ⟨by rfl, ?_⟩) ?_ ?_; rotate_left
         ·intro w'; go_simp; with_reducible rfl
         rotate_left
         ·simp only [Act.put, sa_, sz_, ss_, i64_w, i32_w]; rfl
         refine last_ (i := 14) (N := none) (bitsL 15 32767) rfl rfl (one_of HT_.out (by kernel_rfl)) (by decide) (fun K hK => ?_); have hs65 : w63.cell? ⟨gb642, 0, none⟩ = some (.slice Ao57 t638.length co57) := (blk_cell BK642.out 0).trans rfl; have hfs65 := blk_frozen BK642.out 0; have hns65_0 := NB633_642.out; have hns65_1 := NB634_642.out; have hms65_0 := NB642_633.out; have hms65_1 := NB642_634.out; refine skip_ (w1 := ?_) (by rfl) rfl ?_ ?_; rotate_left
         ·go_simp; rfl
         refine hK.out _ _ ?_; clear hK K; refine done_ (done_of HT_.out (by kernel_rfl)) ?_
         try go_wp2
         have n0_ : Aside0 (Kd.R k54 54 (w63.setCell ⟨gb642, 0, none⟩ (.slice Ao64 y644.length co64)) w.heap.size (fun _ => True) (.slice Ao64 y644.length co64) y644) := ⟨by (with_reducible repeat (first | apply Kd.R_alloc | apply Kd.R_drewN | apply Kd.R_drew)); exact Kd.R_mono (Kd.R_far (p := ⟨gb642, 0, none⟩) (Kd.R_types HO646.out BK642.out (by decide)) (fun _ hk => hk.2) (.slice Ao64 y644.length co64)) (fun _ hk => trivial)⟩
         have n1_ : Aside0 ((w63.setCell ⟨gb642, 0, none⟩ (.slice Ao64 y644.length co64)).heap[gb633]? = some (.cells #[.string a1_0, .string a1_1, .int .i64 a1_2, .slice A1_3 l1_3.length c1_3, .slice A1_4 l1_4.length c1_4, .slice A1_5 l1_5.length c1_5, .int .i64 a1_6, .int .i64 a1_7, .bool a1_8] 39 (0, 0))) := ⟨by (with_reducible repeat (first | refine blk_drewN ?_ _ | refine blk_drew ?_ | refine blk_alloc ?_ _)); refine blk_far ?_ NB633_642.out _; (with_reducible repeat (first | refine blk_drewN ?_ _ | refine blk_drew ?_ | refine blk_alloc ?_ _)); exact BK633.out⟩
         have n2_ : Aside0 ((w63.setCell ⟨gb642, 0, none⟩ (.slice Ao64 y644.length co64)).heap[gb634]? = some (.cells #[.slice A2_0 l2_0.length c2_0, .string a2_1] 34 (0, 0))) := ⟨by (with_reducible repeat (first | refine blk_drewN ?_ _ | refine blk_drew ?_ | refine blk_alloc ?_ _)); refine blk_far ?_ NB634_642.out _; (with_reducible repeat (first | refine blk_drewN ?_ _ | refine blk_drew ?_ | refine blk_alloc ?_ _)); exact BK634.out⟩
         have n3_ : Aside0 ((w63.setCell ⟨gb642, 0, none⟩ (.slice Ao64 y644.length co64)).heap[gb642]? = some (.cells #[.slice Ao64 y644.length co64, .string t641] 28 (0, 0))) := ⟨by (with_reducible repeat (first | refine blk_drewN ?_ _ | refine blk_drew ?_ | refine blk_alloc ?_ _)); exact blk_put (cs := #[.slice Ao57 t638.length co57, .string t641]) bk 0 _ rfl⟩
         have n4_ : Aside0 (Below w.heap.size w (w63.setCell ⟨gb642, 0, none⟩ (.slice Ao64 y644.length co64))) := ⟨bwS⟩
         (try clear HO646)
         (try clear BK633)
         (try clear BK634)
         (try clear BK642)
         (try clear HB)
         generalize (w63.setCell ⟨gb642, 0, none⟩ (.slice Ao64 y644.length co64)) = w66 at n0_ n1_ n2_ n3_ n4_ ⊢
         have HO646 := n0_; have BK633 := n1_; have BK634 := n2_; have BK642 := n3_; have HB := n4_; clear n0_ n1_ n2_ n3_ n4_; have n0_ := Aside0.mk (Kd.R_drew HO646.out); have n1_ := Aside0.mk (blk_drew BK633.out); have n2_ := Aside0.mk (blk_drew BK634.out); have n3_ := Aside0.mk (blk_drew BK642.out); have n4_ := Aside0.mk (below_drew1 HB.out); clear HO646 BK633 BK634 BK642 HB; have HO646 := n0_; have BK633 := n1_; have BK634 := n2_; have BK642 := n3_; have HB := n4_; clear n0_ n1_ n2_ n3_ n4_; refine start_ (n := 11) (S := fun w' => w'.cell? ⟨gb633, 0, none⟩ = some (.string a1_0) ∧ w'.cell? ⟨gb633, 1, none⟩ = some (.string a1_1) ∧ w'.cell? ⟨gb633, 2, none⟩ = some (.int .i64 a1_2) ∧ w'.cell? ⟨gb633, 3, none⟩ = some (.slice A1_3 l1_3.length c1_3) ∧ w'.cell? ⟨gb633, 4, none⟩ = some (.slice A1_4 l1_4.length c1_4) ∧ w'.cell? ⟨gb633, 5, none⟩ = some (.slice A1_5 l1_5.length c1_5) ∧ w'.cell? ⟨gb633, 6, none⟩ = some (.int .i64 a1_6) ∧ w'.cell? ⟨gb633, 7, none⟩ = some (.int .i64 a1_7) ∧ w'.cell? ⟨gb633, 8, none⟩ = some (.bool a1_8) ∧ w'.cell? ⟨gb642, 0, none⟩ = some (.slice Ao64 y644.length co64) ∧ w'.cell? ⟨gb642, 1, none⟩ = some (.string t641)) (ds := []) #[false, false, false, false, false, false, false, false, false, false, false] (by kernel_rfl) rfl rfl ⟨(blk_cell BK633.out 0).trans rfl, (blk_cell BK633.out 1).trans rfl, (blk_cell BK633.out 2).trans rfl, (blk_cell BK633.out 3).trans rfl, (blk_cell BK633.out 4).trans rfl, (blk_cell BK633.out 5).trans rfl, (blk_cell BK633.out 6).trans rfl, (blk_cell BK633.out 7).trans rfl, (blk_cell BK633.out 8).trans rfl, (blk_cell BK642.out 0).trans rfl, (blk_cell BK642.out 1).trans rfl⟩ (fun hHeld => ?_); refine with_tabW bulletinlaw34_RightsLoop.tab7 bulletinlaw34_RightsLoop.bits7 (fun HT_ HW_ => ?_)
         generalize w66.drew = w67 at HO646 BK633 BK634 BK642 HB hHeld ⊢
         refine pure_ (i := 0) (N := some 57) (v := ?_) (a' := ?_) (bitsL 11 1) rfl rfl (any_of HT_.out (by kernel_rfl)) (fun _ _ _ h => h) (Or.inl ⟨by rfl, ?_⟩) ?_ ?_; rotate_left
         ·intro w'; go_simp; with_reducible rfl
         rotate_left
         ·simp only [Act.put, sa_, sz_, ss_, i64_w, i32_w]; rfl
         refine pure_ (i := 4) (N := some 61) (v := ?_) (a' := ?_) (bitsL 11 17) rfl rfl (any_of HT_.out (by kernel_rfl)) (fun _ _ _ h => h) (Or.inl ⟨by rfl, ?_⟩) ?_ ?_; rotate_left
         ·intro w'; go_simp; with_reducible rfl
         rotate_left
         ·simp only [Act.put, sa_, sz_, ss_, i64_w, i32_w]; rfl
         refine take_ (i := 1) (N := some 58) (v := ?_) (a' := ?_) (bitsL 11 19) rfl rfl (take_ofW HT_.out HW_.out (by kernel_rfl)) (fun _ _ _ h => h) (Or.inl ⟨by rfl, ?_⟩) hHeld ?_ ?_; rotate_left
         ·rintro w' ⟨s0, s1, s2, s3, s4, s5, s6, s7, s8, s9, s10⟩; go_simp; with_reducible rfl
         rotate_left
         ·simp only [Act.put, sa_, sz_, ss_, i64_w, i32_w]; rfl
         refine take_ (i := 3) (N := some 60) (v := ?_) (a' := ?_) (bitsL 11 27) rfl rfl (take_ofW HT_.out HW_.out (by kernel_rfl)) (fun _ _ _ h => h) (Or.inl ⟨by rfl, ?_⟩) hHeld ?_ ?_; rotate_left
         ·rintro w' ⟨s0, s1, s2, s3, s4, s5, s6, s7, s8, s9, s10⟩; go_simp; with_reducible rfl
         rotate_left
         ·simp only [Act.put, sa_, sz_, ss_, i64_w, i32_w]; rfl
         refine one_ (i := 2) (N := some 59) (bitsL 11 31) rfl rfl (one_of HT_.out (by kernel_rfl)) (by decide) (fun K hK => ?_); refine goes_ Tryz.func16 (by kernel_rfl) rfl #[.agg #[.string a1_0, .string a1_1, .int .i64 a1_2, .slice A1_3 l1_3.length c1_3, .slice A1_4 l1_4.length c1_4, .slice A1_5 l1_5.length c1_5, .int .i64 a1_6, .int .i64 a1_7, .bool a1_8]] (by rfl) rfl rfl am ?_; with_reducible refine (bulletinlaw32_ToList.calls kj7 a1_0 a1_1 a1_2 _ _ l1_3 _ _ l1_4 _ _ l1_5 a1_6 a1_7 a1_8 t647 t648 t649 t650 t653 t656 t659 t660 t661 _ ?side1 ?side2 ?side3 ?side4 ?side5 ?side6 A50.out).mono ?_
         (case side1 => repeat (first | exact (Kd.C_below HR1_3.out HB.out) | (with_reducible refine Kd.C_alloc ?_ _) | (with_reducible refine Kd.C_drewN ?_ _) | (with_reducible refine Kd.C_drew ?_)))
         (case side2 => exact HC1_3.out)
         (case side3 => repeat (first | exact (Kd.C_below HR1_4.out HB.out) | (with_reducible refine Kd.C_alloc ?_ _) | (with_reducible refine Kd.C_drewN ?_ _) | (with_reducible refine Kd.C_drew ?_)))
         (case side4 => exact HC1_4.out)
         (case side5 => repeat (first | exact (Kd.C_below HR1_5.out HB.out) | (with_reducible refine Kd.C_alloc ?_ _) | (with_reducible refine Kd.C_drewN ?_ _) | (with_reducible refine Kd.C_drew ?_)))
         (case side6 => exact HC1_5.out)
         rintro e w68 ⟨v651, v654, v657, rfl, ho0, ho1, ho2, hb⟩; refine ⟨_, rfl, ?_⟩; have n0_ := Aside0.mk (Kd.R_below (ra HO646.out) hb); have n1_ := Aside0.mk (Kd.R_lower ho0 (below_size bwS)); have n2_ := Aside0.mk (Kd.R_lower ho1 (below_size bwS)); have n3_ := Aside0.mk (Kd.R_lower ho2 (below_size bwS)); have n4_ := Aside0.mk (blk_below (g := gb633) (o := .cells #[.string a1_0, .string a1_1, .int .i64 a1_2, .slice A1_3 l1_3.length c1_3, .slice A1_4 l1_4.length c1_4, .slice A1_5 l1_5.length c1_5, .int .i64 a1_6, .int .i64 a1_7, .bool a1_8] 39 (0, 0)) bk hb); have n5_ := Aside0.mk (blk_below (g := gb634) (o := .cells #[.slice A2_0 l2_0.length c2_0, .string a2_1] 34 (0, 0)) bk hb); have n6_ := Aside0.mk (blk_below (g := gb642) (o := .cells #[.slice Ao64 y644.length co64, .string t641] 28 (0, 0)) bk hb); have n7_ := Aside0.mk (below_step bwS hb); clear HO646 BK633 BK634 BK642 HB; have HO646 := n0_; have HO652 := n1_; have HO655 := n2_; have HO658 := n3_; have BK633 := n4_; have BK634 := n5_; have BK642 := n6_; have HB := n7_; clear n0_ n1_ n2_ n3_ n4_ n5_ n6_ n7_
         (try clear hb)
         (try clear hb2)
         (try clear hk)
         (try clear hi)
         (try clear ho0)
         (try clear ho1)
         (try clear ho2)
         obtain ⟨Ao69, co69, eo69⟩ := Kd.R_slice HO652.out
         (first | subst eo69 | (injection eo69 with f1_ f2_ f3_; have f4_ := f1_.symm; have f5_ := f3_.symm; clear f1_ f2_ f3_; subst f4_; subst f5_))
         obtain ⟨Ao70, co70, eo70⟩ := Kd.R_slice HO655.out
         (first | subst eo70 | (injection eo70 with f1_ f2_ f3_; have f4_ := f1_.symm; have f5_ := f3_.symm; clear f1_ f2_ f3_; subst f4_; subst f5_))
         obtain ⟨Ao71, co71, eo71⟩ := Kd.R_slice HO658.out
         (first | subst eo71 | (injection eo71 with f1_ f2_ f3_; have f4_ := f1_.symm; have f5_ := f3_.symm; clear f1_ f2_ f3_; subst f4_; subst f5_))
         refine hK.out _ _ ⟨(blk_cell BK633.out 0).trans rfl, (blk_cell BK633.out 1).trans rfl, (blk_cell BK633.out 2).trans rfl, (blk_cell BK633.out 3).trans rfl, (blk_cell BK633.out 4).trans rfl, (blk_cell BK633.out 5).trans rfl, (blk_cell BK633.out 6).trans rfl, (blk_cell BK633.out 7).trans rfl, (blk_cell BK633.out 8).trans rfl, (blk_cell BK642.out 0).trans rfl, (blk_cell BK642.out 1).trans rfl⟩ (fun hHeld => ?_); clear hK K; refine norm_ (a' := ?_) ?_ ?_; rotate_left
         ·show Act.put _ (some 59) _ = _
          simp only [Act.put, sa_, sz_, ss_, i64_w, i32_w]; rfl
         refine one_ (i := 5) (N := some 62) (bitsL 11 63) rfl rfl (one_of HT_.out (by kernel_rfl)) (by decide) (fun K hK => ?_); refine goes_ Tryz.func22 (by kernel_rfl) rfl #[.string a0, .agg #[.string t647, .string t648, .int .i64 t649, .slice Ao69 t650.length co69, .slice Ao70 t653.length co70, .slice Ao71 t656.length co71, .int .i64 t659, .int .i64 t660, .bool t661], .agg #[.slice Ao64 y644.length co64, .string t641], .bool a3] (by rfl) rfl rfl am ?_; with_reducible refine (rights_Judge.calls (hG := by first | exact hG | exact Glob.below hG (by first | exact HB.out | (repeat (first | (with_reducible first | exact HB.out | apply below_alloc | apply pw_below_drewN | apply below_drew1 | refine below_set ?_ GE633.out | refine below_set ?_ GE634.out | refine below_set ?_ GE642.out) | exact HB.out))) | exact Glob.drawn hG (d0)) a0 t647 t648 t649 _ _ t650 _ _ t653 _ _ t656 t659 t660 t661 _ _ y644 t641 a3 t662 t663 _ ?side1 ?side2 ?side3 ?side4 ?side5 ?side6 ?side7 ?side8 A51.out).mono ?_
         (case side1 => repeat (first | exact (Kd.R_reads' HO652.out).2.2 | (with_reducible refine Kd.C_alloc ?_ _) | (with_reducible refine Kd.C_drewN ?_ _) | (with_reducible refine Kd.C_drew ?_)))
         (case side2 => exact (Kd.R_reads' HO652.out).2.1)
         (case side3 => repeat (first | exact (Kd.R_reads' HO655.out).2.2 | (with_reducible refine Kd.C_alloc ?_ _) | (with_reducible refine Kd.C_drewN ?_ _) | (with_reducible refine Kd.C_drew ?_)))
         (case side4 => exact (Kd.R_reads' HO655.out).2.1)
         (case side5 => repeat (first | exact (Kd.R_reads' HO658.out).2.2 | (with_reducible refine Kd.C_alloc ?_ _) | (with_reducible refine Kd.C_drewN ?_ _) | (with_reducible refine Kd.C_drew ?_)))
         (case side6 => exact (Kd.R_reads' HO658.out).2.1)
         (case side7 => repeat (first | exact (Kd.R_reads' HO646.out).2.2 | (with_reducible refine Kd.C_alloc ?_ _) | (with_reducible refine Kd.C_drewN ?_ _) | (with_reducible refine Kd.C_drew ?_)))
         (case side8 => exact (Kd.R_reads' HO646.out).2.1)
         rintro e w72 ⟨rfl, hb⟩; refine ⟨_, rfl, ?_⟩; have n0_ := Aside0.mk (Kd.R_below (ra HO646.out) hb); have n1_ := Aside0.mk (Kd.R_below (ra HO652.out) hb); have n2_ := Aside0.mk (Kd.R_below (ra HO655.out) hb); have n3_ := Aside0.mk (Kd.R_below (ra HO658.out) hb); have n4_ := Aside0.mk (blk_below (g := gb633) (o := .cells #[.string a1_0, .string a1_1, .int .i64 a1_2, .slice A1_3 l1_3.length c1_3, .slice A1_4 l1_4.length c1_4, .slice A1_5 l1_5.length c1_5, .int .i64 a1_6, .int .i64 a1_7, .bool a1_8] 39 (0, 0)) bk hb); have n5_ := Aside0.mk (blk_below (g := gb634) (o := .cells #[.slice A2_0 l2_0.length c2_0, .string a2_1] 34 (0, 0)) bk hb); have n6_ := Aside0.mk (blk_below (g := gb642) (o := .cells #[.slice Ao64 y644.length co64, .string t641] 28 (0, 0)) bk hb); have n7_ := Aside0.mk (below_step bwS hb); clear HO646 HO652 HO655 HO658 BK633 BK634 BK642 HB; have HO646 := n0_; have HO652 := n1_; have HO655 := n2_; have HO658 := n3_; have BK633 := n4_; have BK634 := n5_; have BK642 := n6_; have HB := n7_; clear n0_ n1_ n2_ n3_ n4_ n5_ n6_ n7_
         (try clear hb)
         (try clear hb2)
         (try clear hk)
         (try clear hi)
         refine hK.out _ _ ⟨(blk_cell BK633.out 0).trans rfl, (blk_cell BK633.out 1).trans rfl, (blk_cell BK633.out 2).trans rfl, (blk_cell BK633.out 3).trans rfl, (blk_cell BK633.out 4).trans rfl, (blk_cell BK633.out 5).trans rfl, (blk_cell BK633.out 6).trans rfl, (blk_cell BK633.out 7).trans rfl, (blk_cell BK633.out 8).trans rfl, (blk_cell BK642.out 0).trans rfl, (blk_cell BK642.out 1).trans rfl⟩ (fun hHeld => ?_); clear hK K; refine norm_ (a' := ?_) ?_ ?_; rotate_left
         ·show Act.put _ (some 62) _ = _
          simp only [Act.put, sa_, sz_, ss_, i64_w, i32_w]; rfl
         refine pure_ (i := 6) (N := some 56) (v := ?_) (a' := ?_) (bitsL 11 127) rfl rfl (any_of HT_.out (by kernel_rfl)) (fun _ _ _ h => h) (Or.inl ⟨by rfl, ?_⟩) ?_ ?_; rotate_left
         ·intro w'; go_simp; with_reducible rfl
         rotate_left
         ·simp only [Act.put, sa_, sz_, ss_, i64_w, i32_w]; rfl
         refine pure_ (i := 7) (N := some 63) (v := ?_) (a' := ?_) (bitsL 11 255) rfl rfl (any_of HT_.out (by kernel_rfl)) (fun _ _ _ h => h) (Or.inl ⟨by rfl, ?_⟩) ?_ ?_; rotate_left
         ·intro w'; go_simp; with_reducible rfl
         rotate_left
         ·simp only [Act.put, sa_, sz_, ss_, i64_w, i32_w]; rfl
         refine pure_ (i := 8) (N := some 64) (v := ?_) (a' := ?_) (bitsL 11 511) rfl rfl (any_of HT_.out (by kernel_rfl)) (fun _ _ _ h => h) (Or.inl ⟨by rfl, ?_⟩) ?_ ?_; rotate_left
         ·intro w'; go_simp; with_reducible rfl
         rotate_left
         ·simp only [Act.put, sa_, sz_, ss_, i64_w, i32_w]; rfl
         refine pure_ (i := 9) (N := some 12) (v := ?_) (a' := ?_) (bitsL 11 1023) rfl rfl (any_of HT_.out (by kernel_rfl)) (fun _ _ _ h => h) (Or.inl ⟨by rfl, ?_⟩) ?_ ?_; rotate_left
         ·intro w'; go_simp; with_reducible rfl
         rotate_left
         ·simp only [Act.put, sa_, sz_, ss_, i64_w, i32_w]; rfl
         refine pure_ (i := 10) (N := some 13) (v := ?_) (a' := ?_) (bitsL 11 2047) rfl rfl (any_of HT_.out (by kernel_rfl)) (fun _ _ _ h => h) (Or.inl ⟨by rfl, ?_⟩) ?_ ?_; rotate_left
         ·intro w'; go_simp; with_reducible rfl
         rotate_left
         ·simp only [Act.put, sa_, sz_, ss_, i64_w, i32_w]; rfl
         refine done_ (done_of HT_.out (by kernel_rfl)) ?_
         try go_wp2
         go_ret
         exact ⟨ew, bwS⟩
        rw [if_neg c52] at H; have c52b0 := beq_eq_false_iff_ne.mpr c52; have c52b1 := bne_iff_ne.mpr c52; obtain rfl := Option.some.inj H; exact absurd HT.out (by decide)
       rw [if_neg c49] at H; exact absurd H (by simp)
      rw [if_neg c48] at H; exact absurd H (by simp)
     rw [if_neg c47] at H; exact absurd H (by simp)
    rw [if_neg c45] at H; exact absurd H (by simp)
 replace c7 := Bool.eq_false_iff.mpr c7; subst c7; rw [if_neg nft] at H; obtain rfl := Option.some.inj H; exact absurd HT.out (by decide)
end Go.Proofs.YtcndmhpeolbepaaGreatDoor.Fn
set_option linter.unusedVariables false
namespace Go.Proofs.YtcndmhpeolbepaaGreatDoor.Pl
open Go.RowKit Go.Proofs.YtcndmhpeolbepaaGreatDoorW.PrintWords Go.Proofs.YtcndmhpeolbepaaGreatDoor.Fn
end Go.Proofs.YtcndmhpeolbepaaGreatDoor.Pl
namespace Go.Proofs.YtcndmhpeolbepaaGreatDoor.Fn
open Go.RowKit Go.Shelf Go.Proofs.YtcndmhpeolbepaaGreatDoorW.PrintWords

attribute [local go_sem] Oper.semAt_some

end Go.Proofs.YtcndmhpeolbepaaGreatDoor.Fn
namespace Go.Proofs.YtcndmhpeolbepaaGreatDoor.Pl
open Go.Proofs.YtcndmhpeolbepaaGreatDoor.Fn
/-! Layer 14: what the program's functions compute -/
theorem mbxRead_is (s : ByteArray) (hs : s.size ≤ 50000) : mbx_Read.f s = some ((readL (bs s)).1.map toBox, (readL (bs s)).2) := if_pos hs
def oneL (s : Bytes) : BoxL × Int := if (readL s).2 ≠ 0 then (([], [], []), (readL s).2) else match (readL s).1 with
 | [x] => (x, 0)
 | _ => (([], [], []), 130)
theorem mbxOne_is (s : ByteArray) (hs : s.size ≤ 50000) : mbx_One.f s = some (str (oneL (bs s)).1.1, str (oneL (bs s)).1.2.1, str (oneL (bs s)).1.2.2, (oneL (bs s)).2) := by
 unfold mbx_One.f oneL
 rw [mbxRead_is s hs, Option.bind_some]
 obtain ⟨⟨l, e⟩, h⟩ : ∃ x, readL (bs s) = x := ⟨_, rfl⟩
 rw [h]
 simp only [List.length_map]
 by_cases he : e = 0
 ·subst he
  rw [if_pos rfl]
  match l with
  | [] => rfl
  | [x] => rfl
  | x :: y :: r => rw [if_neg (by simp only [List.length_cons]; omega)]; rfl
 rw [if_neg he]
 simp only [ne_eq, he, not_false_eq_true, if_true]
 rfl
/-! Layer 34: everything that rights.Judge asks has an answer, for messages of a bounded size. -/
structure SmallF (fl : List FP) : Prop where
 len : fl.length ≤ 1000
 name : ∀ x ∈ fl, x.f0.size ≤ 1000
 val : ∀ x ∈ fl, x.f1.size ≤ 10000
theorem allL_val {fl : List FP} (h : SmallF fl) (name : ByteArray) : (allL fl name).length ≤ 1000 ∧ ∀ v ∈ allL fl name, v.size ≤ 10000 := by
 unfold allL
 constructor
 ·rw [List.length_map]
  exact Nat.le_trans (List.length_filter_le _ _) h.len
 intro v hv
 obtain ⟨x, hx, rfl⟩ := List.mem_map.1 hv
 exact h.val x ((List.mem_filter.1 hx).1)
theorem all_some {fl : List FP} (h : SmallF fl) (name : ByteArray) (hn : name.size ≤ 1000) (k : Nat) (hk : 2000 ≤ k) : head_All.f k fl name = some (allL fl name) :=
 all_is fl name (by have := h.len; omega) (by omega) (fun x hx => by have := h.name x hx; omega) k (by have := h.len; omega)
theorem oneL_short (s : Bytes) : (oneL s).1.2.1.length ≤ 253 ∧ (oneL s).1.2.2.length ≤ 253 := by
 unfold oneL
 by_cases h : (readL s).2 ≠ 0
 ·rw [if_pos h]; simp
 rw [if_neg h]
 have h0 : (readL s).2 = 0 := by simpa using h
 have hg := readL_good (s := s) (r := (readL s).1) (Prod.ext rfl h0)
 match hr : (readL s).1 with
 | [] => simp
 | [x] =>
  have hx := hg x (by rw [hr]; simp)
  have hs := right_short hx.2
  rw [str_size, str_size] at hs
  show x.2.1.length ≤ 253 ∧ x.2.2.length ≤ 253
  omega
 | x :: y :: r => simp
theorem from_some {fl : List FP} (h : SmallF fl) (body : ByteArray) (k : Nat) (hk : 2000 ≤ k) : ∃ f1 f2 f3 f4, msg_Message_From.f k fl body = some (f1, f2, f3, f4) ∧ f2.size ≤ 253 ∧ f3.size ≤ 253 := by
 unfold msg_Message_From.f
 rw [all_some h _ (by decide) k hk, Option.bind_some]
 have hv := allL_val h ⟨#[70, 114, 111, 109]⟩
 generalize allL fl ⟨#[70, 114, 111, 109]⟩ = l at hv
 by_cases h1 : (l.length : Int) = 0
 ·rw [if_pos h1]; exact ⟨_, _, _, _, rfl, by decide, by decide⟩
 rw [if_neg h1]
 by_cases h2 : (l.length : Int) > 1
 ·rw [if_pos h2]; exact ⟨_, _, _, _, rfl, by decide, by decide⟩
 have h3 : 0 < l.length := by omega
 rw [if_neg h2, if_pos (by omega)]
 have e : rdOf ByteArray.empty l 0 = l[0] := rdS l 0 h3
 rw [e, mbxOne_is _ (by have := hv.2 l[0] (List.getElem_mem h3); omega), Option.bind_some]
 have ho := oneL_short (bs l[0])
 exact ⟨_, _, _, _, rfl, by rw [str_size]; exact ho.1, by rw [str_size]; exact ho.2⟩
theorem get_some {fl : List FP} (h : SmallF fl) (body name : ByteArray) (hn : name.size ≤ 1000) (k : Nat) (hk : 2000 ≤ k) : ∃ v, msg_Message_Get.f k fl body name = some v ∧ v.size ≤ 10000 := by
 unfold msg_Message_Get.f
 rw [get_is fl name (by have := h.len; omega) (by omega) (fun x hx => by have := h.name x hx; omega) k (by have := h.len; omega), Option.bind_some]
 have hv := (allL_val h name).2
 cases hl : allL fl name with
 | nil => exact ⟨_, rfl, by decide⟩
 | cons v r => exact ⟨_, rfl, hv v (by rw [hl]; simp)⟩
theorem fold_some (s : ByteArray) (hs : s.size ≤ 100000000) : glyph_Fold.f s = some (str (fold (bs s))) := by
 unfold glyph_Fold.f
 rw [if_pos (by omega)]
 rfl
theorem indexAny_le (chars : List UInt8) : ∀ l : List UInt8, Lib.indexAny l chars ≤ (l.length : Int)
 | [] => by simp [Lib.indexAny]
 | b :: l => by
  have ih := indexAny_le chars l
  rw [Lib.indexAny]
  simp only [List.length_cons]
  split
  ·omega
  split <;> omega
theorem word_some {fl : List FP} (h : SmallF fl) (body name : ByteArray) (hn : name.size ≤ 1000) (k : Nat) (hk : 2000 ≤ k) : ∃ v, msg_Message_Word.f k fl body name = some v := by
 unfold msg_Message_Word.f
 obtain ⟨v, hv, hz⟩ := get_some h body name hn k hk
 rw [hv, Option.bind_some]
 unfold strings_IndexAny.f
 rw [if_neg (by decide), if_pos rfl, if_pos (by omega), Option.bind_some]
 have hb := indexAny_le [59, 32, 9] v.data.toList
 rw [data_length] at hb
 by_cases h0 : Lib.indexAny v.data.toList [59, 32, 9] ≥ 0
 ·rw [if_pos h0, if_pos h0, if_pos (by omega), fold_some _ (by rw [ByteArray.size_extract]; omega)]
  exact ⟨_, rfl⟩
 rw [if_neg h0, fold_some _ (by omega)]
 exact ⟨_, rfl⟩
theorem auto_some {fl : List FP} (h : SmallF fl) (body : ByteArray) (k : Nat) (hk : 2000 ≤ k) : ∃ v, msg_Message_Auto.f k fl body = some v := by
 unfold msg_Message_Auto.f
 obtain ⟨v, hv⟩ := word_some h body ⟨#[80, 114, 101, 99, 101, 100, 101, 110, 99, 101]⟩ (by decide) k hk
 obtain ⟨u, hu⟩ := word_some h body ⟨#[65, 117, 116, 111, 45, 83, 117, 98, 109, 105, 116, 116, 101, 100]⟩ (by decide) k hk
 rw [hv, Option.bind_some, hu, Option.bind_some]
 repeat' split
 all_goals exact ⟨_, rfl⟩
def suffL (e : Bytes) (x : Bytes) : Bool := decide (e.length ≤ x.length) && (x.drop (x.length - e.length) == e)
theorem suffix_is (a b : ByteArray) (ha : a.size ≤ 1000000000) (hb : b.size ≤ 1000000000) : strings_HasSuffix.f a b = some (suffL (bs b) (bs a)) := by
 unfold strings_HasSuffix.f stringslite_HasSuffix.f suffL
 rw [bs_length, bs_length]
 by_cases h : b.size ≤ a.size
 ·have e : wrap64 ((a.size : Int) - (b.size : Int)) = ((a.size - b.size : Nat) : Int) := by rw [wrap_id (by omega) (by omega)]; omega
  rw [if_pos (by omega), e, if_pos (by omega), if_pos (by omega), Int.toNat_natCast, Option.bind_some, decide_eq_true h, Bool.true_and, toList_bs, toList_bs, bs_extract, List.take_of_length_le (by rw [bs_length]; omega)]
 rw [if_neg (by omega), Option.bind_some, decide_eq_false h]
 rfl
theorem seen_l0 (e : ByteArray) (he : e.size ≤ 100000) (l : List ByteArray) (hl : l.length ≤ 1000) (hz : ∀ x ∈ l, x.size ≤ 10000) : ∀ (n i k : Nat), l.length = i + n → n < k →
  msg_Message_Seen.l0 k e l (l.length : Int) (i : Int) = some ((l.drop i).any (fun x => suffL (bs e) (fold (bs x))))
 | 0, i, k, h, hk => by
  obtain ⟨k, rfl⟩ : ∃ q, k = q + 1 := ⟨k - 1, by omega⟩
  rw [msg_Message_Seen.l0, if_neg (by omega), List.drop_of_length_le (by omega)]
  rfl
 | n + 1, i, k, h, hk => by
  obtain ⟨k, rfl⟩ : ∃ q, k = q + 1 := ⟨k - 1, by omega⟩
  have hi : i < l.length := by omega
  have hzi := hz l[i] (List.getElem_mem hi)
  rw [msg_Message_Seen.l0, if_pos (by omega), if_pos (by omega), if_pos (by omega), rdS l i hi, fold_some _ (by omega), Option.bind_some, suffix_is _ _ (by rw [str_size, fold_length, bs_length]; omega) (by omega), Option.bind_some, bs_str, List.drop_eq_getElem_cons hi, List.any_cons]
  by_cases hq : suffL (bs e) (fold (bs l[i])) = true
  ·rw [if_pos hq, hq, Bool.true_or]
  rw [if_neg hq, wrapS i (by omega), seen_l0 e he l hl hz n (i + 1) k (by omega) (by omega), Bool.not_eq_true _ |>.mp hq, Bool.false_or]
theorem seen_is {fl : List FP} (h : SmallF fl) (body id : ByteArray) (hid : id.size ≤ 1000) (k : Nat) (hk : 2000 ≤ k) :
  msg_Message_Seen.f k fl body id = some ((allL fl ⟨#[76, 105, 115, 116, 45, 73, 100]⟩).any (fun x => suffL (60 :: (fold (bs id) ++ [62])) (fold (bs x)))) := by
 unfold msg_Message_Seen.f
 have z : ∀ q : Bytes, (str q).size = q.length := str_size
 have z1 : (⟨#[60]⟩ : ByteArray).size = 1 := rfl
 have z2 : (⟨#[62]⟩ : ByteArray).size = 1 := rfl
 have hl := fold_length (bs id)
 rw [bs_length] at hl
 rw [fold_some _ (by omega), Option.bind_some, if_pos (by rw [z]; omega), if_pos (by rw [ByteArray.size_append, z, z1]; omega), all_some h _ (by decide) k hk, Option.bind_some]
 have hv := allL_val h ⟨#[76, 105, 115, 116, 45, 73, 100]⟩
 have := seen_l0 ((⟨#[60]⟩ : ByteArray) ++ str (fold (bs id)) ++ (⟨#[62]⟩ : ByteArray)) (by rw [ByteArray.size_append, ByteArray.size_append, z, z1, z2]; omega) _ hv.1 hv.2 (allL fl ⟨#[76, 105, 115, 116, 45, 73, 100]⟩).length 0 k (by omega) (by omega)
 rw [List.drop_zero, bs_app, bs_app, bs_str] at this
 rw [show ((0 : Nat) : Int) = 0 from rfl] at this
 rw [this]
 rfl
theorem hops_some {fl : List FP} (h : SmallF fl) (body : ByteArray) (k : Nat) (hk : 2000 ≤ k) : ∃ v, msg_Message_Hops.f k fl body = some v := by
 unfold msg_Message_Hops.f
 rw [all_some h _ (by decide) k hk]
 exact ⟨_, rfl⟩
theorem id_is (a b : ByteArray) (ha : a.size ≤ 1000) (hb : b.size ≤ 1000) : rights_ID.f a b = some (str (bs a ++ 46 :: bs b)) := by
 unfold rights_ID.f
 have z1 : (⟨#[46]⟩ : ByteArray).size = 1 := rfl
 rw [if_pos (by omega), if_pos (by rw [ByteArray.size_append, z1]; omega)]
 congr 1
 apply bs_inj
 rw [bs_app, bs_app, bs_str]
 show bs a ++ [46] ++ bs b = _
 simp
theorem refused_some {fl : List FP} (h : SmallF fl) (a0 n t : ByteArray) (post : Int) (l3 l4 l5 : List S30) (dg sc : Int) (ar : Bool) (body : ByteArray) (ha : a0.size ≤ 300) (hn : n.size ≤ 300) :
  ∃ hp au ok, ∀ post, rights_refused.f a0 n t post l3 l4 l5 dg sc ar fl body = some (refB ((allL fl ⟨#[76, 105, 115, 116, 45, 73, 100]⟩).any (fun x => suffL (60 :: (fold (bs (str (bs n ++ 46 :: bs a0))) ++ [62])) (fold (bs x)))) hp au ok) := by
 obtain ⟨f1, f2, f3, f4, hf, _⟩ := from_some h body bigK (by decide)
 obtain ⟨v, hv⟩ := hops_some h body bigK (by decide)
 obtain ⟨q, hq⟩ := auto_some h body bigK (by decide)
 have hi : (str (bs n ++ 46 :: bs a0)).size ≤ 1000 := by rw [str_size, List.length_append, List.length_cons, bs_length, bs_length]; omega
 refine ⟨decide (30 < v), q, f4 == 0, fun post => ?_⟩
 unfold rights_refused.f
 rw [hf, Option.bind_some, id_is n a0 (by omega) (by omega), Option.bind_some, seen_is h body _ hi bigK (by decide), Option.bind_some, hv, Option.bind_some, hq, Option.bind_some]
theorem mod_l0 (l : List S30) (hl : l.length ≤ 1000) (hz : ∀ x ∈ l, x.f0.size ≤ 1000 ∧ x.f1.size ≤ 1000) (a b : ByteArray) (ha : a.size ≤ 1000) (hb : b.size ≤ 1000) : ∀ (n i k : Nat), l.length = i + n → n + 3000 < k →
  ∃ v, conf_List_Mod.l0 k l (l.length : Int) (i : Int) a b = some v
 | 0, i, k, h, hk => by
  obtain ⟨k, rfl⟩ : ∃ q, k = q + 1 := ⟨k - 1, by omega⟩
  rw [conf_List_Mod.l0, if_neg (by omega)]
  exact ⟨_, rfl⟩
 | n + 1, i, k, h, hk => by
  obtain ⟨k, rfl⟩ : ∃ q, k = q + 1 := ⟨k - 1, by omega⟩
  have hi : i < l.length := by omega
  have hzi := hz l[i] (List.getElem_mem hi)
  have e : rd_T30 l (i : Int) = l[i] := by
   unfold rd_T30
   rw [Int.toNat_natCast, List.getD_eq_getElem?_getD, List.getElem?_eq_getElem hi]
   rfl
  rw [conf_List_Mod.l0, if_pos (by omega), if_pos (by omega), if_pos (by omega), e, addrKey_is a b (by omega) (by omega) k (by omega), Option.bind_some, addrKey_is _ _ (by omega) (by omega) k (by omega), Option.bind_some]
  split
  ·exact ⟨_, rfl⟩
  rw [wrapS i (by omega)]
  exact mod_l0 l hl hz a b ha hb n (i + 1) k (by omega) (by omega)
theorem mod_some (l l4 l5 : List S30) (hl : l.length ≤ 1000) (hz : ∀ x ∈ l, x.f0.size ≤ 1000 ∧ x.f1.size ≤ 1000) (a b n t : ByteArray) (ha : a.size ≤ 1000) (hb : b.size ≤ 1000) (post dg sc : Int) (ar : Bool) (k : Nat) (hk : 5000 ≤ k) :
  ∃ v, conf_List_Mod.f k n t post l l4 l5 dg sc ar a b = some v := mod_l0 l hl hz a b ha hb l.length 0 k (by omega) (by omega)
def sbjV (fl : List FP) : ByteArray := (getA (allL fl ⟨#[83, 117, 98, 106, 101, 99, 116]⟩)).1
def sbjS (fl : List FP) : ByteArray := str (saysL (bs (sbjV fl)))
def sbjW (fl : List FP) : List ByteArray := words (str (fold (bs (sbjS fl))))
def oddP (ws : List ByteArray) : ByteArray := if (ws.length : Int) = 0 then ⟨#[115, 117, 98, 106, 101, 99, 116]⟩ else if (rdOf ByteArray.empty ws 0).toList = [115, 117, 98, 115, 99, 114, 105, 98, 101] then ⟨#[99, 111, 109, 109, 97, 110, 100]⟩ else if (rdOf ByteArray.empty ws 0).toList = [117, 110, 115, 117, 98, 115, 99, 114, 105, 98, 101] then ⟨#[99, 111, 109, 109, 97, 110, 100]⟩ else ⟨#[]⟩
theorem sbjV_size {fl : List FP} (h : SmallF fl) : (sbjV fl).size ≤ 10000 := by
 unfold sbjV
 have hv := (allL_val h ⟨#[83, 117, 98, 106, 101, 99, 116]⟩).2
 cases hl : allL fl ⟨#[83, 117, 98, 106, 101, 99, 116]⟩ with
 | nil => decide
 | cons v r => exact hv v (by rw [hl]; simp)
theorem sbj_is {fl : List FP} (h : SmallF fl) (body : ByteArray) (k : Nat) (hk : 2000 ≤ k) : rights_Subject.f k fl body = some (sbjS fl) := by
 unfold rights_Subject.f msg_Message_Get.f
 have hz := sbjV_size h
 rw [get_is fl _ (by have := h.len; omega) (by decide) (fun x hx => by have := h.name x hx; omega) k (by have := h.len; omega), Option.bind_some, Option.bind_some]
 show ((ew_Decode.f (sbjV fl)).bind _) = _
 have h1 := decodeL_len (bs (sbjV fl))
 rw [bs_length] at h1
 rw [decode_is _ (by omega), Option.bind_some]
 unfold glyph_Clean.f
 rw [str_size, if_pos (by omega), Option.bind_some]
 rfl
theorem sbjS_size {fl : List FP} (h : SmallF fl) : (sbjS fl).size ≤ 12000000 := by
 have h1 := saysL_len (bs (sbjV fl))
 have h2 := sbjV_size h
 rw [bs_length] at h1
 unfold sbjS
 rw [str_size]
 omega
theorem sfold_is {fl : List FP} (h : SmallF fl) : glyph_Fold.f (sbjS fl) = some (str (fold (bs (sbjS fl)))) := fold_some _ (by have := sbjS_size h; omega)
theorem swords_is {fl : List FP} (h : SmallF fl) : glyph_Words.f (str (fold (bs (sbjS fl)))) = some (sbjW fl) := by
 unfold glyph_Words.f
 have := sbjS_size h
 rw [str_size, fold_length, bs_length, if_pos (by omega)]
 rfl
theorem odd_is {fl : List FP} (h : SmallF fl) (body : ByteArray) (k : Nat) (hk : 2000 ≤ k) : rights_odd.f k fl body = some (oddP (sbjW fl)) := by
 unfold rights_odd.f oddP
 rw [sbj_is h body k hk, Option.bind_some, sfold_is h, Option.bind_some, swords_is h, Option.bind_some]
 generalize sbjW fl = ws
 by_cases h0 : (ws.length : Int) = 0
 ·rw [if_pos h0, if_pos h0]
 rw [if_neg h0, if_neg h0, if_pos (by omega)]
 split
 ·rfl
 split <;> rfl
theorem judge_is {fl : List FP} (h : SmallF fl) (a0 n t : ByteArray) (l3 l4 l5 : List S30) (hl : l3.length ≤ 1000) (hz : ∀ x ∈ l3, x.f0.size ≤ 1000 ∧ x.f1.size ≤ 1000) (dg sc : Int) (ar : Bool) (body : ByteArray) (ha : a0.size ≤ 300) (hn : n.size ≤ 300) :
  ∃ rf md, (∀ post, rights_refused.f a0 n t post l3 l4 l5 dg sc ar fl body = some rf) ∧ ∀ post mem, rights_Judge.f a0 n t post l3 l4 l5 dg sc ar fl body mem = some (judgeB (rf.toList == []) md ((oddP (sbjW fl)).toList == []) (post == 1) (post == 3) mem rf (oddP (sbjW fl))) := by
 obtain ⟨hp, au, ok, hrf⟩ := refused_some h a0 n t 0 l3 l4 l5 dg sc ar body ha hn
 obtain ⟨f1, f2, f3, f4, hf, z2, z3⟩ := from_some h body bigK (by decide)
 obtain ⟨md, hmd⟩ := mod_some l3 l4 l5 hl hz f2 f3 n t (by omega) (by omega) 0 dg sc ar bigK (by decide)
 refine ⟨_, md, hrf, fun post mem => ?_⟩
 unfold rights_Judge.f
 rw [hrf post, Option.bind_some, hf, Option.bind_some]
 have hm : conf_List_Mod.f bigK n t post l3 l4 l5 dg sc ar f2 f3 = some md := hmd
 show ((conf_List_Mod.f bigK n t post l3 l4 l5 dg sc ar f2 f3).bind _) = _
 rw [hm, Option.bind_some, odd_is h body bigK (by decide), Option.bind_some]
/-! Layer 32: a list that came in: whether it is not too much, and as the program has it. -/
abbrev FA := S23
def toAd (x : FA) : S30 := ⟨x.f0, x.f1⟩
theorem rdA (l : List FA) (i : Nat) (h : i < l.length) : rd_T23 l (i : Int) = l[i] := by
 unfold rd_T23
 rw [Int.toNat_natCast, List.getD_eq_getElem?_getD, List.getElem?_eq_getElem h]; rfl
def okA (f : FA) : Bool := decide (f.f0.size ≤ 300) && decide (f.f1.size ≤ 300)
def shortA (l : List FA) : Bool := (l.take 25).all okA && decide (l.length ≤ 25)
theorem shortA_rounds (l : List FA) : ∀ (n i k : Nat), i + n = 26 → i ≤ 25 → 2 * n + 3 < k → i ≤ l.length → bulletinlaw32_short.l0 k l (i : Int) = some (((l.take 25).drop i).all okA && decide (l.length ≤ 25)) := by
 intro n
 induction n with
 | zero => intro i k h hi; omega
 | succ n ih =>
  intro i k h hi hk hil
  obtain ⟨k, rfl⟩ : ∃ q, k = q + 2 := ⟨k - 2, by omega⟩
  have hd : decide ((l.length : Int) ≤ 25) = decide (l.length ≤ 25) := by congr 1; exact propext ⟨fun h => by omega, fun h => by omega⟩
  rw [bulletinlaw32_short.l0]
  by_cases h1 : i < l.length
  ·rw [if_pos (by omega)]
   by_cases h2 : i < 25
   ·rw [decide_eq_true (show ((i : Int) < 25) by omega), bulletinlaw32_short.j1, if_pos rfl, if_pos (by omega), if_pos (by omega), rdA l i h1]
    have hdr : (l.take 25).drop i = l[i] :: (l.take 25).drop (i + 1) := by
     rw [List.drop_eq_getElem_cons (by rw [List.length_take]; omega), List.getElem_take]
    rw [hdr, List.all_cons]
    have hok : okA l[i] = (decide ((l[i]).f0.size ≤ 300) && decide ((l[i]).f1.size ≤ 300)) := rfl
    by_cases a : (l[i]).f0.size > 300
    ·rw [if_pos (by omega), hok, decide_eq_false (by omega)]; rfl
    rw [if_neg (by omega)]
    by_cases b : (l[i]).f1.size > 300
    ·rw [if_pos (by omega), hok, decide_eq_false (show ¬ (l[i]).f1.size ≤ 300 by omega)]; simp
    rw [if_neg (by omega), wrapS i (by omega), ih (i + 1) k (by omega) (by omega) (by omega) (by omega), hok, decide_eq_true (show (l[i]).f0.size ≤ 300 by omega), decide_eq_true (show (l[i]).f1.size ≤ 300 by omega)]
    rfl
   rw [decide_eq_false (show ¬ ((i : Int) < 25) by omega), bulletinlaw32_short.j1, if_neg (by decide), hd, List.drop_of_length_le (by rw [List.length_take]; omega)]
   rfl
  rw [if_neg (by omega), bulletinlaw32_short.j1, if_neg (by decide), hd, List.drop_of_length_le (by rw [List.length_take]; omega)]
  rfl
theorem shortA_is (l : List FA) (k : Nat) (hk : 100 < k) : bulletinlaw32_short.f k l = some (shortA l) := by
 unfold bulletinlaw32_short.f shortA
 have := shortA_rounds l 26 0 k (by omega) (by omega) (by omega) (by omega)
 rw [List.drop_zero] at this
 exact this
theorem shortA_some {l : List FA} (h : shortA l = true) : l.length ≤ 25 ∧ ∀ f ∈ l, f.f0.size ≤ 300 ∧ f.f1.size ≤ 300 := by
 unfold shortA at h
 rw [Bool.and_eq_true, decide_eq_true_iff] at h
 refine ⟨h.2, fun f hf => ?_⟩
 rw [List.take_of_length_le h.2] at h
 have := List.all_eq_true.1 h.1 f hf
 unfold okA at this
 rw [Bool.and_eq_true, decide_eq_true_iff, decide_eq_true_iff] at this
 exact this
theorem toA_rounds (l : List FA) (hl : l.length ≤ 1000000) : ∀ (n i k : Nat), l.length = i + n → n < k → bulletinlaw32_people.l0 k l ((l.take i).map toAd) (i : Int) = some (l.map toAd) := by
 intro n
 induction n with
 | zero =>
  intro i k h hk
  obtain ⟨k, rfl⟩ : ∃ q, k = q + 1 := ⟨k - 1, by omega⟩
  rw [bulletinlaw32_people.l0, if_neg (by omega), List.take_of_length_le (by omega)]
 | succ n ih =>
  intro i k h hk
  obtain ⟨k, rfl⟩ : ∃ q, k = q + 1 := ⟨k - 1, by omega⟩
  rw [bulletinlaw32_people.l0, if_pos (by omega), if_pos (by omega), rdA l i (by omega)]
  show ((bulletinlaw13_To.f (l[i]).f0 (l[i]).f1).bind _) = _
  rw [show bulletinlaw13_To.f (l[i]).f0 (l[i]).f1 = some ((l[i]).f0, (l[i]).f1) from rfl, Option.bind_some, if_pos (by rw [List.length_map, List.length_take]; omega), wrapS i (by omega)]
  have := ih (i + 1) k (by omega) (by omega)
  rw [List.take_succ_eq_append_getElem (by omega), List.map_append] at this
  exact this
theorem toA_is (l : List FA) (hl : l.length ≤ 1000000) (k : Nat) (hk : l.length < k) : bulletinlaw32_people.f k l = some (l.map toAd) := by
 unfold bulletinlaw32_people.f
 exact toA_rounds l hl l.length 0 k (by omega) (by omega)
def light32 (n t : ByteArray) (l3 l4 l5 : List FA) : Bool := decide (n.size ≤ 100) && (decide (t.size ≤ 100) && (shortA l3 && (shortA l4 && shortA l5)))
theorem light32_is (n t : ByteArray) (post : Int) (l3 l4 l5 : List FA) (dg sc : Int) (ar : Bool) (k : Nat) (hk : 200 < k) : bulletinlaw34_light.f k n t post l3 l4 l5 dg sc ar = some (light32 n t l3 l4 l5) := by
 unfold bulletinlaw34_light.f bulletinlaw32_Light.f light32
 obtain ⟨k, rfl⟩ : ∃ q, k = q + 1 + 1 + 1 + 1 := ⟨k - 4, by omega⟩
 have e : rd_T39 [(⟨n, t, post, l3, l4, l5, dg, sc, ar⟩ : S39)] 0 = ⟨n, t, post, l3, l4, l5, dg, sc, ar⟩ := rfl
 have hw : wrap64 (0 + 1) = 1 := wrap_id (by decide) (by decide)
 have hd0 : decide ((0 : Int) < 10) = true := by decide
 have hd1 : ((([(⟨n, t, post, l3, l4, l5, dg, sc, ar⟩ : S39)] : List S39).length : Nat) : Int) = 1 := rfl
 rw [bulletinlaw32_Light.l0, hd1, if_pos (by decide), hd0, bulletinlaw32_Light.j1, if_pos rfl, if_pos (by decide), hd1, if_pos (by decide), e]
 dsimp only
 by_cases h1 : (n.size : Int) > 100
 ·rw [if_pos h1, Option.bind_some, decide_eq_false (show ¬ n.size ≤ 100 by omega)]; rfl
 rw [if_neg h1, decide_eq_true (show n.size ≤ 100 by omega), Bool.true_and]
 by_cases h2 : (t.size : Int) > 100
 ·rw [if_pos h2, Option.bind_some, decide_eq_false (show ¬ t.size ≤ 100 by omega)]; rfl
 rw [if_neg h2, decide_eq_true (show t.size ≤ 100 by omega), Bool.true_and, shortA_is l3 _ (by omega), Option.bind_some]
 cases shortA l3
 ·rfl
 rw [if_pos rfl, Bool.true_and, shortA_is l4 _ (by omega), Option.bind_some]
 cases shortA l4
 ·rfl
 rw [if_pos rfl, Bool.true_and, shortA_is l5 _ (by omega), Option.bind_some]
 cases shortA l5
 ·rfl
 rw [if_pos rfl, hw, bulletinlaw32_Light.l0, hd1, if_neg (by decide), bulletinlaw32_Light.j1, if_neg (by decide), hd1]
 rfl
theorem light32_true {n t : ByteArray} {l3 l4 l5 : List FA} (h : light32 n t l3 l4 l5 = true) : n.size ≤ 100 ∧ t.size ≤ 100 ∧ shortA l3 = true ∧ shortA l4 = true ∧ shortA l5 = true := by
 unfold light32 at h
 simp only [Bool.and_eq_true, decide_eq_true_eq] at h
 exact h
theorem tolist_is (n t : ByteArray) (post : Int) (l3 l4 l5 : List FA) (dg sc : Int) (ar : Bool) (h3 : l3.length ≤ 25) (h4 : l4.length ≤ 25) (h5 : l5.length ≤ 25) (k : Nat) (hk : 100 < k) :
  bulletinlaw32_ToList.f k n t post l3 l4 l5 dg sc ar = some (n, t, post, l3.map toAd, l4.map toAd, l5.map toAd, dg, sc, ar) := by
 unfold bulletinlaw32_ToList.f
 rw [toA_is l3 (by omega) k (by omega), Option.bind_some, toA_is l4 (by omega) k (by omega), Option.bind_some, toA_is l5 (by omega) k (by omega), Option.bind_some]
theorem toAd_small {l : List FA} (h : shortA l = true) : (l.map toAd).length ≤ 1000 ∧ ∀ x ∈ l.map toAd, x.f0.size ≤ 1000 ∧ x.f1.size ≤ 1000 := by
 have hs := shortA_some h
 refine ⟨by rw [List.length_map]; omega, fun x hx => ?_⟩
 obtain ⟨y, hy, rfl⟩ := List.mem_map.1 hx
 have := hs.2 y hy
 exact ⟨by show y.f0.size ≤ 1000; omega, by show y.f1.size ≤ 1000; omega⟩
theorem light16_small {l : List FQ} {b : ByteArray} (h : lightQ l = true) : SmallF (l.map toF) := by
 have hs := lightQ_some h
 refine ⟨by rw [List.length_map]; omega, fun x hx => ?_, fun x hx => ?_⟩
 ·obtain ⟨y, hy, rfl⟩ := List.mem_map.1 hx
  have := hs.2 y hy
  show y.f0.size ≤ 1000
  omega
 obtain ⟨y, hy, rfl⟩ := List.mem_map.1 hx
 have := hs.2 y hy
 show y.f1.size ≤ 10000
 omega
theorem works34 (k : Nat) (hk : 100 ≤ k) : bulletinlaw34_works.f k = some true := mono_up bulletinlaw34_works.mono bulletinlaw34_works.at_ k hk
theorem suffL_app (e x : Bytes) : suffL e (x ++ e) = true := by
 unfold suffL
 rw [List.length_append, decide_eq_true (by omega), Bool.true_and, show x.length + e.length - e.length = x.length by omega, List.drop_left]
 exact beq_self_eq_true e
theorem RightsLoop (a0 n t : ByteArray) (post : Int) (l3 l4 l5 : List FA) (dg sc : Int) (ar : Bool) (fq : List FQ) (body : ByteArray) (mem : Bool) (ti : ByteArray) : ∃ k, bulletinlaw34_RightsLoop.f k a0 n t post l3 l4 l5 dg sc ar fq body mem ti = some true := by
 refine ⟨100000 + 1, ?_⟩
 generalize hk : (100000 : Nat) = k
 unfold bulletinlaw34_RightsLoop.f
 have hj : bulletinlaw34_RightsLoop.j0 (k + 1) a0 mem ti true n t post l3 l4 l5 dg sc ar fq body = some true := by rw [bulletinlaw34_RightsLoop.j0, if_pos rfl]
 rw [works34 _ (by omega), Option.bind_some, if_pos rfl, light16 fq body _ (by omega), Option.bind_some]
 by_cases h1 : (lightQ fq && decide ((body.size : Int) ≤ 3000)) = true
 case neg => rw [if_neg h1, hj]
 rw [if_pos h1]
 by_cases h2 : (fq.length : Int) > 29
 ·rw [if_pos h2, hj]
 rw [if_neg h2, light32_is n t post l3 l4 l5 dg sc ar _ (by omega), Option.bind_some]
 by_cases h3 : light32 n t l3 l4 l5 = true
 case neg => rw [if_neg h3, hj]
 rw [if_pos h3]
 by_cases h4 : (a0.size : Int) > 300
 ·rw [if_pos h4, hj]
 rw [if_neg h4]
 by_cases h5 : (ti.size : Int) > 300
 ·rw [decide_eq_true h5, hj]
 rw [decide_eq_false h5, bulletinlaw34_RightsLoop.j0, if_neg (by decide), to16 fq body (by omega) k (by omega), Option.bind_some]
 dsimp only
 rw [Bool.and_eq_true] at h1
 have hs := light16_small (b := body) h1.1
 obtain ⟨q1, q2, q3, q4, q5⟩ := light32_true h3
 have p3 := toAd_small q3
 have z : ∀ q : Bytes, (str q).size = q.length := str_size
 have z1 : (⟨#[60]⟩ : ByteArray).size = 1 := rfl
 have z2 : (⟨#[62]⟩ : ByteArray).size = 1 := rfl
 have zi : (bs n ++ 46 :: bs a0).length ≤ 401 := by rw [List.length_append, List.length_cons, bs_length, bs_length]; omega
 rw [if_pos (by omega), id_is n a0 (by omega) (by omega), Option.bind_some, if_pos (by rw [ByteArray.size_append, z1, z]; omega), if_pos (by rw [ByteArray.size_append, ByteArray.size_append, z1, z]; omega), if_pos (by rw [List.length_map]; omega), tolist_is n t post l3 l4 l5 dg sc ar (shortA_some q3).1 (shortA_some q4).1 (shortA_some q5).1 k (by omega), Option.bind_some]
 dsimp only
 obtain ⟨F, hF⟩ : ∃ F, F = fq.map toF ++ [(⟨(⟨#[76, 105, 115, 116, 45, 73, 100]⟩ : ByteArray), ((ti ++ (⟨#[60]⟩ : ByteArray)) ++ str (bs n ++ 46 :: bs a0)) ++ (⟨#[62]⟩ : ByteArray)⟩ : FP)] := ⟨_, rfl⟩
 rw [← hF]
 have hSF : SmallF F := by
  rw [hF]
  refine ⟨by have := hs.len; rw [List.length_append, List.length_map, List.length_singleton]; omega, fun x hx => ?_, fun x hx => ?_⟩
  ·rcases List.mem_append.1 hx with hx | hx
   ·exact hs.name x hx
   rw [List.mem_singleton.1 hx]; exact (by decide : (⟨#[76, 105, 115, 116, 45, 73, 100]⟩ : ByteArray).size ≤ 1000)
  rcases List.mem_append.1 hx with hx | hx
  ·exact hs.val x hx
  rw [List.mem_singleton.1 hx]
  show (((ti ++ (⟨#[60]⟩ : ByteArray)) ++ str (bs n ++ 46 :: bs a0)) ++ (⟨#[62]⟩ : ByteArray)).size ≤ 10000
  rw [ByteArray.size_append, ByteArray.size_append, ByteArray.size_append, z1, z2, z]
  omega
 obtain ⟨rf, md, hr, hj2⟩ := judge_is hSF a0 n t (l3.map toAd) (l4.map toAd) (l5.map toAd) p3.1 p3.2 dg sc ar body (by omega) (by omega)
 have hrf : rf = ⟨#[108, 111, 111, 112]⟩ := by
  have h := hr post
  obtain ⟨hp, au, ok, hrr⟩ := refused_some hSF a0 n t post (l3.map toAd) (l4.map toAd) (l5.map toAd) dg sc ar body (by omega) (by omega)
  rw [hrr post] at h
  have hany : ((allL F ⟨#[76, 105, 115, 116, 45, 73, 100]⟩).any (fun x => suffL (60 :: (fold (bs (str (bs n ++ 46 :: bs a0))) ++ [62])) (fold (bs x)))) = true := by
   rw [List.any_eq_true]
   refine ⟨((ti ++ (⟨#[60]⟩ : ByteArray)) ++ str (bs n ++ 46 :: bs a0)) ++ (⟨#[62]⟩ : ByteArray), ?_, ?_⟩
   ·unfold allL
    rw [hF]
    refine List.mem_map.2 ⟨_, List.mem_filter.2 ⟨List.mem_append.2 (.inr (List.mem_singleton.2 rfl)), ?_⟩, rfl⟩
    show sameN ⟨#[76, 105, 115, 116, 45, 73, 100]⟩ ⟨#[76, 105, 115, 116, 45, 73, 100]⟩ = true
    decide +kernel
   have e : fold (bs (((ti ++ (⟨#[60]⟩ : ByteArray)) ++ str (bs n ++ 46 :: bs a0)) ++ (⟨#[62]⟩ : ByteArray))) = fold (bs ti) ++ (60 :: (fold (bs (str (bs n ++ 46 :: bs a0))) ++ [62])) := by
    rw [bs_app, bs_app, bs_app]
    unfold fold
    rw [List.map_append, List.map_append, List.map_append]
    show _ ++ [60] ++ _ ++ [62] = _
    simp
   rw [e]
   exact suffL_app _ _
  rw [hany] at h
  exact (Option.some.inj h).symm
 have e : (((⟨#[108, 111, 111, 112]⟩ : ByteArray)).toList == ([] : List UInt8)) = false := by decide +kernel
 rw [hj2, hrf, Option.bind_some, e]
 unfold judgeB
 rw [if_pos rfl, if_pos rfl]
 congr 1
 decide +kernel
end Go.Proofs.YtcndmhpeolbepaaGreatDoor.Pl
namespace Go.Proofs.YtcndmhpeolbepaaGreatDoor.Fn
open Go.ChangeShapes Go.WideShapes
/-! A slice of fields (two texts each) that came in. -/
def strOf : Value → ByteArray | .string s => s | _ => ByteArray.empty
theorem open_fields {H : Type} {enc : TypeId × Value → H} {w : World} {base : Nat} {spare : Nat → Bool} {held : Bool} {fuel : Nat} {v : Value} {x : DataW H × List MemPlace}
  (h : DataW.trod enc Tryz.prog w base spare held fuel 32 [v] = some x) :
  ∃ (A : Option Addr) (c : Nat) (l : List (S66)), v = .slice A l.length c ∧ l.length ≤ c ∧ c ≤ maxLen ∧ Kd.C k66 w A l.length l := by
 rcases Go.Deep.open_slice_pairs Tryz.underlying32 Tryz.underlying66 (by kernel_rfl) rfl rfl (by kernel_rfl) (by kernel_rfl) h with ⟨h0, _⟩ | ⟨a, len, cap, m, n, V0, V1, D0, D1, P0, P1, hv, hb, hl, hm, hmm, _, hx⟩
 ·refine ⟨none, 0, [], ?_, Nat.le_refl _, Nat.zero_le _, ?_⟩
  ·simpa using h0
  exact ⟨rfl, by simp, fun h => absurd h (by simp)⟩
 have hlm : len ≤ m := by rw [hmm]; split <;> omega
 have s0 : ∀ i, i < len → V0 i = .string (strOf (V0 i)) := fun i hi => by
  obtain ⟨_, _, g, _⟩ := hx i (by omega)
  obtain ⟨s, e, _⟩ := DataW.trod_string Tryz.underlying9 g
  simp only [List.cons.injEq, and_true] at e
  rw [e]; rfl
 have s1 : ∀ i, i < len → V1 i = .string (strOf (V1 i)) := fun i hi => by
  obtain ⟨_, _, _, g⟩ := hx i (by omega)
  obtain ⟨s, e, _⟩ := DataW.trod_string Tryz.underlying9 g
  simp only [List.cons.injEq, and_true] at e
  rw [e]; rfl
 have hlen : ((List.range len).map fun i => (⟨strOf (V0 i), strOf (V1 i)⟩ : S66)).length = len := by simp
 refine ⟨some a, cap, (List.range len).map fun i => ⟨strOf (V0 i), strOf (V1 i)⟩, ?_, by rw [hlen]; exact hl, hm, ?_⟩
 ·rw [hlen]; simpa using hv
 rw [hlen]
 refine ⟨hlen, by unfold maxLen at hm; omega, fun h0 => ⟨a, rfl, fun j p hp => ?_⟩⟩
 have hj : j < len := by
  have := (List.getElem?_eq_some_iff.1 hp).1
  rwa [hlen] at this
 have hp' : p = ⟨strOf (V0 j), strOf (V1 j)⟩ := by
  rw [List.getElem?_map, List.getElem?_range hj] at hp
  exact (Option.some.inj hp).symm
 subst hp'
 obtain ⟨g0, g1, _, _⟩ := hx j (by omega)
 rw [s0 j hj] at g0
 rw [s1 j hj] at g1
 refine ⟨[.string (strOf (V0 j)), .string (strOf (V1 j))], rfl, k66_mk w _, fun i u hu => ?_⟩
 match i, hu with
 | 0, hu => obtain rfl := Option.some.inj hu; exact g0
 | 1, hu => obtain rfl := Option.some.inj hu; exact g1
 | i + 2, hu => simp at hu
/-! A slice of addresses that came in. -/
theorem open_addrs {H : Type} {enc : TypeId × Value → H} {w : World} {base : Nat} {spare : Nat → Bool} {held : Bool} {fuel : Nat} {v : Value} {x : DataW H × List MemPlace}
  (h : DataW.trod enc Tryz.prog w base spare held fuel 37 [v] = some x) :
  ∃ (A : Option Addr) (c : Nat) (l : List (S23)), v = .slice A l.length c ∧ l.length ≤ c ∧ c ≤ maxLen ∧ Kd.C k23 w A l.length l := by
 rcases Go.Deep.open_slice_pairs Tryz.underlying37 Tryz.underlying23 (by kernel_rfl) rfl rfl (by kernel_rfl) (by kernel_rfl) h with ⟨h0, _⟩ | ⟨a, len, cap, m, n, V0, V1, D0, D1, P0, P1, hv, hb, hl, hm, hmm, _, hx⟩
 ·refine ⟨none, 0, [], ?_, Nat.le_refl _, Nat.zero_le _, ?_⟩
  ·simpa using h0
  exact ⟨rfl, by simp, fun h => absurd h (by simp)⟩
 have hlm : len ≤ m := by rw [hmm]; split <;> omega
 have s0 : ∀ i, i < len → V0 i = .string (strOf (V0 i)) := fun i hi => by
  obtain ⟨_, _, g, _⟩ := hx i (by omega)
  obtain ⟨s, e, _⟩ := DataW.trod_string Tryz.underlying9 g
  simp only [List.cons.injEq, and_true] at e
  rw [e]; rfl
 have s1 : ∀ i, i < len → V1 i = .string (strOf (V1 i)) := fun i hi => by
  obtain ⟨_, _, _, g⟩ := hx i (by omega)
  obtain ⟨s, e, _⟩ := DataW.trod_string Tryz.underlying9 g
  simp only [List.cons.injEq, and_true] at e
  rw [e]; rfl
 have hlen : ((List.range len).map fun i => (⟨strOf (V0 i), strOf (V1 i)⟩ : S23)).length = len := by simp
 refine ⟨some a, cap, (List.range len).map fun i => ⟨strOf (V0 i), strOf (V1 i)⟩, ?_, by rw [hlen]; exact hl, hm, ?_⟩
 ·rw [hlen]; simpa using hv
 rw [hlen]
 refine ⟨hlen, by unfold maxLen at hm; omega, fun h0 => ⟨a, rfl, fun j p hp => ?_⟩⟩
 have hj : j < len := by
  have := (List.getElem?_eq_some_iff.1 hp).1
  rwa [hlen] at this
 have hp' : p = ⟨strOf (V0 j), strOf (V1 j)⟩ := by
  rw [List.getElem?_map, List.getElem?_range hj] at hp
  exact (Option.some.inj hp).symm
 subst hp'
 obtain ⟨g0, g1, _, _⟩ := hx j (by omega)
 rw [s0 j hj] at g0
 rw [s1 j hj] at g1
 refine ⟨[.string (strOf (V0 j)), .string (strOf (V1 j))], rfl, k23_mk w _, fun i u hu => ?_⟩
 match i, hu with
 | 0, hu => obtain rfl := Option.some.inj hu; exact g0
 | 1, hu => obtain rfl := Option.some.inj hu; exact g1
 | i + 2, hu => simp at hu
/-! A list (nine cells) that came in. -/
theorem array9 {α : Type} {cs : Array α} (h : cs.size = 9) : ∃ c0 c1 c2 c3 c4 c5 c6 c7 c8, cs = #[c0, c1, c2, c3, c4, c5, c6, c7, c8] := by
 obtain ⟨l⟩ := cs
 match l, h with
 | [c0, c1, c2, c3, c4, c5, c6, c7, c8], _ => exact ⟨c0, c1, c2, c3, c4, c5, c6, c7, c8, rfl⟩
theorem list9 {α : Type} {cs : List α} (h : cs.length = 9) : ∃ c0 c1 c2 c3 c4 c5 c6 c7 c8, cs = [c0, c1, c2, c3, c4, c5, c6, c7, c8] := by
 match cs, h with
 | [c0, c1, c2, c3, c4, c5, c6, c7, c8], _ => exact ⟨c0, c1, c2, c3, c4, c5, c6, c7, c8, rfl⟩
theorem cells9_str : Tryz.prog.cellsOf 9 = 1 := by kernel_rfl
theorem cells9_int : Tryz.prog.cellsOf 3 = 1 := by kernel_rfl
theorem cells9_bool : Tryz.prog.cellsOf 4 = 1 := by kernel_rfl
theorem cells9_sl : Tryz.prog.cellsOf 37 = 1 := by kernel_rfl
set_option maxRecDepth 100000 in
theorem open_list {H : Type} {enc : TypeId × Value → H} {w W : World} {base base' : Nat} {spare : Nat → Bool} {held : Bool} {re : Reach} {v : Value} {d : DataW H} {ps : List MemPlace}
  (hv : Value.okWide Tryz.prog W re base' 39 v) (h : DataW.Trod enc Tryz.prog w base spare held 39 v d ps) :
  ∃ (a0 a1 : ByteArray) (a2 : Int) (A3 : Option Addr) (s3 : Nat) (l3 : List S23) (A4 : Option Addr) (s4 : Nat) (l4 : List S23) (A5 : Option Addr) (s5 : Nat) (l5 : List S23) (a6 a7 : Int) (a8 : Bool), v = .agg #[.string a0, .string a1, .int .i64 a2, .slice A3 l3.length s3, .slice A4 l4.length s4, .slice A5 l5.length s5, .int .i64 a6, .int .i64 a7, .bool a8] ∧ l3.length ≤ s3 ∧ l4.length ≤ s4 ∧ l5.length ≤ s5 ∧
   Kd.C k23 w A3 l3.length l3 ∧ Kd.C k23 w A4 l4.length l4 ∧ Kd.C k23 w A5 l5.length l5 := by
 obtain ⟨cs, rfl, hsz⟩ := okWide_struct Tryz.underlying39 hv
 obtain ⟨c0, c1, c2, c3, c4, c5, c6, c7, c8, rfl⟩ := array9 (hsz.trans (by kernel_rfl))
 obtain ⟨fuel, hf⟩ := h
 obtain ⟨xs, n, _, hx, hl, hlen, hall⟩ := DataW.trod_struct Tryz.underlying39 hf
 obtain ⟨y0, y1, y2, y3, y4, y5, y6, y7, y8, rfl⟩ := list9 hlen
 have f0 := hall 0 _ rfl
 have g0 : ∃ x, DataW.trod enc Tryz.prog w base spare held n 9 [c0] = some x := ⟨_, by simpa [cells9_str, Value.cells] using f0⟩
 have f1 := hall 1 _ rfl
 have g1 : ∃ x, DataW.trod enc Tryz.prog w base spare held n 9 [c1] = some x := ⟨_, by simpa [cells9_str, Value.cells] using f1⟩
 have f2 := hall 2 _ rfl
 have g2 : ∃ x, DataW.trod enc Tryz.prog w base spare held n 3 [c2] = some x := ⟨_, by simpa [cells9_int, Value.cells] using f2⟩
 have f3 := hall 3 _ rfl
 have g3 : ∃ x, DataW.trod enc Tryz.prog w base spare held n 37 [c3] = some x := ⟨_, by simpa [cells9_sl, Value.cells] using f3⟩
 have f4 := hall 4 _ rfl
 have g4 : ∃ x, DataW.trod enc Tryz.prog w base spare held n 37 [c4] = some x := ⟨_, by simpa [cells9_sl, Value.cells] using f4⟩
 have f5 := hall 5 _ rfl
 have g5 : ∃ x, DataW.trod enc Tryz.prog w base spare held n 37 [c5] = some x := ⟨_, by simpa [cells9_sl, Value.cells] using f5⟩
 have f6 := hall 6 _ rfl
 have g6 : ∃ x, DataW.trod enc Tryz.prog w base spare held n 3 [c6] = some x := ⟨_, by simpa [cells9_int, Value.cells] using f6⟩
 have f7 := hall 7 _ rfl
 have g7 : ∃ x, DataW.trod enc Tryz.prog w base spare held n 3 [c7] = some x := ⟨_, by simpa [cells9_int, Value.cells] using f7⟩
 have f8 := hall 8 _ rfl
 have g8 : ∃ x, DataW.trod enc Tryz.prog w base spare held n 4 [c8] = some x := ⟨_, by simpa [cells9_bool, Value.cells] using f8⟩
 obtain ⟨x0, g0⟩ := g0
 obtain ⟨a0, e0, _, _⟩ := DataW.trod_string Tryz.underlying9 g0
 simp only [List.cons.injEq, and_true] at e0
 subst e0
 obtain ⟨x1, g1⟩ := g1
 obtain ⟨a1, e1, _, _⟩ := DataW.trod_string Tryz.underlying9 g1
 simp only [List.cons.injEq, and_true] at e1
 subst e1
 obtain ⟨x2, g2⟩ := g2
 obtain ⟨a2, e2, _, _⟩ := DataW.trod_int Tryz.underlying3 g2
 simp only [List.cons.injEq, and_true] at e2
 subst e2
 obtain ⟨x3, g3⟩ := g3
 obtain ⟨A3, s3, l3, rfl, hc3, _, hr3⟩ := open_addrs g3
 obtain ⟨x4, g4⟩ := g4
 obtain ⟨A4, s4, l4, rfl, hc4, _, hr4⟩ := open_addrs g4
 obtain ⟨x5, g5⟩ := g5
 obtain ⟨A5, s5, l5, rfl, hc5, _, hr5⟩ := open_addrs g5
 obtain ⟨x6, g6⟩ := g6
 obtain ⟨a6, e6, _, _⟩ := DataW.trod_int Tryz.underlying3 g6
 simp only [List.cons.injEq, and_true] at e6
 subst e6
 obtain ⟨x7, g7⟩ := g7
 obtain ⟨a7, e7, _, _⟩ := DataW.trod_int Tryz.underlying3 g7
 simp only [List.cons.injEq, and_true] at e7
 subst e7
 obtain ⟨x8, g8⟩ := g8
 obtain ⟨a8, e8, _⟩ := DataW.trod_bool Tryz.underlying4 g8
 simp only [List.cons.injEq, and_true] at e8
 subst e8
 exact ⟨a0, a1, a2, A3, s3, l3, A4, s4, l4, A5, s5, l5, a6, a7, a8, rfl, hc3, hc4, hc5, hr3, hr4, hr5⟩
end Go.Proofs.YtcndmhpeolbepaaGreatDoor.Fn
