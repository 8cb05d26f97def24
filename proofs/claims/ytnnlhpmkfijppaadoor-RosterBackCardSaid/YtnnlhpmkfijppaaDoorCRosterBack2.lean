/- A part of the proof of this sentence: A right member is read again of its text, and what any text is read as is right and has just that text -/
import Derived.Test.YtnnlhpmkfijppaaDoorCRosterBack1
set_option linter.unusedVariables false
namespace Go.Proofs.YtnnlhpmkfijppaaDoor.Pl
open Go.RowKit Go.Proofs.YtnnlhpmkfijppaaDoorW.PrintWords Go.Proofs.YtnnlhpmkfijppaaDoor.Fn

/-! Layer 13, the program's: labels. -/
def labelled (c : UInt8) : Bool := (addr_labelled.f (c.toNat : Int)).getD false
theorem labelled_is (c : UInt8) : addr_labelled.f (c.toNat : Int) = some (labelled c) := by
 have : ∀ x : Int, (addr_labelled.f x).isSome := by
  intro x
  unfold addr_labelled.f
  repeat' split
  all_goals rfl
 unfold labelled
 have h := this (c.toNat : Int)
 cases hx : addr_labelled.f (c.toNat : Int) with
 | none => rw [hx] at h; cases h
 | some b => rfl
def labelL (l : Bytes) : Bool := l.all labelled && (match l.head?, l.getLast? with | some a, some b => a != 45 && b != 45 | _, _ => false)
def label (s : ByteArray) : Bool := labelL (bs s)
theorem byte_45 (c : UInt8) : ((c.toNat : Int) = 45) = (c = 45) := propext ⟨fun h => UInt8.toNat_inj.1 (by simpa using (by omega : c.toNat = 45)), fun h => by rw [h]; rfl⟩
theorem byte_ne45 (c : UInt8) : ((c.toNat : Int) != 45) = (c != 45) := by
 rw [Bool.eq_iff_iff, bne_iff_ne, bne_iff_ne, ne_eq, ne_eq, byte_45]
theorem addrLabel_end (s : ByteArray) (hs : s.size ≤ 140737488355328) (k : Nat) (i : Nat) (hi : s.size ≤ i) : addr_label.l0 (k + 1) s (s.size : Int) (i : Int) = some (match (bs s).head?, (bs s).getLast? with | some a, some b => a != 45 && b != 45 | _, _ => false) := by
 rw [addr_label.l0, if_neg (by omega), toList_bs]
 cases hb : bs s with
 | nil => simp
 | cons c rest =>
  have hlen : s.size = rest.length + 1 := by rw [← bs_length, hb]; simp
  have h0 : bt s 0 = (c.toNat : Int) := by
   have := bt_drop (s := s) (i := 0) (c := c) (r := rest) (by simpa using hb)
   simpa using this
  rw [if_neg (by simp), if_pos (by omega), h0]
  have hl : (c :: rest).getLast? = some ((c :: rest).getLast (by simp)) := List.getLast?_eq_some_getLast (by simp)
  rw [hl]
  simp only [List.head?_cons]
  by_cases hc : c = 45
  ·rw [if_pos (by rw [byte_45]; exact hc)]; simp [hc]
  ·rw [if_neg (by rw [byte_45]; exact hc)]
   rw [wrap_id (by omega) (by omega), if_pos (by omega), if_pos (by omega)]
   have hlast : bt s ((s.size : Int) - 1) = (((c :: rest).getLast (by simp)).toNat : Int) := by
    have e : ((s.size : Int) - 1) = ((s.size - 1 : Nat) : Int) := by omega
    rw [e, bt_bs s (s.size - 1) (by rw [bs_length]; omega)]
    congr 2
    simp only [hb, List.getLast_eq_getElem, hlen]
    rfl
   rw [hlast, byte_ne45]
   simp [hc]
theorem addrLabel_l0 (s : ByteArray) (hs : s.size ≤ 140737488355328) : ∀ (rest : Bytes) (i k : Nat), (bs s).drop i = rest → i ≤ (bs s).length → rest.length + 1 ≤ k →
  addr_label.l0 k s (s.size : Int) (i : Int) = some (rest.all labelled && (match (bs s).head?, (bs s).getLast? with | some a, some b => a != 45 && b != 45 | _, _ => false))
 | [], i, k, hd, hi, hk => by
  obtain ⟨k, rfl⟩ : ∃ j, k = j + 1 := ⟨k - 1, by omega⟩
  have := drop_nil hd
  rw [addrLabel_end s hs k i (by rw [bs_length] at this; exact this)]
  simp
 | c :: rest, i, k, hd, hi, hk => by
  obtain ⟨k, rfl⟩ : ∃ j, k = j + 1 := ⟨k - 1, by omega⟩
  obtain ⟨h1, h2, h3, h4⟩ := drop_cons hd
  have h5 : i < s.size := by rw [bs_length] at h1; exact h1
  rw [addr_label.l0, if_pos (by omega), if_pos (by omega), if_pos (by omega), bt_drop hd, labelled_is, Option.bind_some]
  cases ha : labelled c with
  | true =>
   rw [if_pos rfl, wrap_succ i (by omega), addrLabel_l0 s hs rest (i + 1) k h3 (by omega) (by simp at hk; omega)]
   simp [ha]
  | false =>
   rw [if_neg (by simp)]
   simp [ha]
theorem addrLabel_is (s : ByteArray) (hs : s.size ≤ 140737488355328) (k : Nat) (hk : s.size + 1 ≤ k) : addr_label.f k s = some (label s) := by
 have := addrLabel_l0 s hs (bs s) 0 k (by simp) (by omega) (by rw [bs_length]; omega)
 unfold addr_label.f label labelL
 exact this
end Go.Proofs.YtnnlhpmkfijppaaDoor.Pl
set_option linter.unusedVariables false
namespace Go.Proofs.YtnnlhpmkfijppaaDoor.Pl
def domLong (s : ByteArray) (l : List ByteArray) : Bool := decide (253 < (s.size : Int)) || l.any (fun x => decide (63 < (x.size : Int)))
def domain (s : ByteArray) : Int := if (dots s).all label = true then (if domLong s (dots s) = true then 2 else 0) else 130
end Go.Proofs.YtnnlhpmkfijppaaDoor.Pl
namespace Go.Proofs.YtnnlhpmkfijppaaDoor.Fn
open Go.RowKit Go.Shelf Go.Proofs.YtnnlhpmkfijppaaDoorW.PrintWords

def addr_domain.f (a0 : ByteArray) : Option Int := if a0.size ≤ 140737488355328 then some (Pl.domain a0) else none

attribute [local go_sem] Oper.semAt_some

set_option maxHeartbeats 4000000 in
set_option maxRecDepth 100000 in
theorem addr_domain.calls (a0 : ByteArray) (r : Int) (w : World) (h : addr_domain.f a0 = some r) :
  Calls Tryd.prog 47 #[.string a0] w fun e w' => e = .returned (.int .i64 r) ∧ Below w.heap.size w w' := by
 unfold addr_domain.f at h
 by_cases hs : a0.size ≤ 140737488355328
 ·rw [if_pos hs] at h
  have HR := Aside0.mk (Option.some.inj h)
  clear h
  have h1 : 1 ≤ 3 := by decide
  refine (callsIn_wide (n := 3)).1 ?_
  refine callsIn_of_wp_marks Tryd.func47 rfl trivial ?_ rfl
  simp only [Tryd.ntmps47, List.size_toArray, List.length_cons, List.length_nil, Nat.reduceAdd, Nat.reduceSub, Array.replicate_succ, Array.replicate_zero, List.push_toArray, List.append_toArray, List.nil_append, List.cons_append]
  gi_wp2_with (refine ⟨trivial, ?_⟩; gi_at_call 43; refine (callsIn_wide.2 (SplitSeq_calls _ _ _)).mono ?_; rintro e W1 ⟨rfl, hb, hz, hB⟩)
  simp only [World.size_alloc] at hb hz hB
  have b0 := box_cell w (.int .i64 0) 31
  have b1 := box_cell (w.alloc (.cells #[.int .i64 0] 31)) (.bool (decide (253 < (a0.size : Int)))) 4
  rw [World.size_alloc] at b1
  have B0 : Below w.heap.size w ((w.alloc (.cells #[.int .i64 0] 31)).alloc (.cells #[.bool (decide (253 < (a0.size : Int)))] 4)) := ((Below.refl _ w).alloc (Nat.le_refl _) _).alloc (by simp) _
  have c0 := (hB.cell (p := ⟨w.heap.size, 0, none⟩) (by simp; omega)).trans (cell_on _ b0.1)
  have f0 := (hB.frozen (p := ⟨w.heap.size, 0, none⟩) (by simp; omega)).trans (frozen_on _ b0.1 b0.2)
  have c1 := (hB.cell (p := ⟨w.heap.size + 1, 0, none⟩) (by simp)).trans b1.1
  have f1 := (hB.frozen (p := ⟨w.heap.size + 1, 0, none⟩) (by simp)).trans b1.2
  have B1 : Below w.heap.size w W1 := B0.trans (hB.mono (by omega))
  refine split_range (bs := w.heap.size + 1 + 1) (D := fun b => w.heap.size + 1 + 1 ≤ b ∧ b ≤ w.heap.size + 1 + 1 + 2) (xs := Pl.dots a0) h1 rfl
   (split_gives_one 2 (by decide) (w.heap.size + 1 + 1) a0 46 (by omega) W1 (by omega) hb) (fun b hb => by omega)
   (fun pre W => (pre.all Pl.label = true ∧ W.cell? ⟨w.heap.size, 0, none⟩ = some (.int .i64 0) ∧ W.frozen? ⟨w.heap.size, 0, none⟩ = false ∧ W.cell? ⟨w.heap.size + 1, 0, none⟩ = some (.bool (Pl.domLong a0 pre)) ∧ W.frozen? ⟨w.heap.size + 1, 0, none⟩ = false) ∧ Below w.heap.size w W)
   (fun c pre W => (c = .ret ∧ pre.all Pl.label = false ∧ W.cell? ⟨w.heap.size, 0, none⟩ = some (.int .i64 130)) ∧ Below w.heap.size w W)
   (OwnFrom.and (Own.from (fun s A B row hs hg hr => ⟨hs.1, cell_kept hs.2.1 hg hr, (frozen_kept hs.2.1 hg hr).trans hs.2.2.1, cell_kept hs.2.2.2.1 hg hr, (frozen_kept hs.2.2.2.1 hg hr).trans hs.2.2.2.2⟩) _) (ownFrom_below (Nat.le_refl _) (by omega)))
   (fun c => OwnFrom.and (Own.from (fun s A B row hs hg hr => ⟨hs.1, hs.2.1, cell_kept hs.2.2 hg hr⟩) _) (ownFrom_below (Nat.le_refl _) (by omega)))
   (fun s A v hs => ⟨⟨hs.1.1, (World.cell?_setCell_other _ _ _ _ (by simp)).trans hs.1.2.1, by rw [World.frozen?_setCell]; exact hs.1.2.2.1, (World.cell?_setCell_other _ _ _ _ (by simp)).trans hs.1.2.2.2.1, by rw [World.frozen?_setCell]; exact hs.1.2.2.2.2⟩, hs.2.setCell (p := ⟨w.heap.size + 1 + 1, 0, none⟩) (by simp; omega) _⟩)
   ⟨⟨rfl, c0, f0, by rw [c1]; simp [Pl.domLong], f1⟩, B1⟩
   (fun x => { tmps := #[.string a0, undef, .pointer (some ⟨w.heap.size, 0, none⟩), .pointer (some ⟨w.heap.size + 1, 0, none⟩), .string x, .string a0, .int .i64 (a0.size : Int), .bool (decide (253 < (a0.size : Int))), .string a0, .func (.func 68) #[] #[.pointer (some ⟨w.heap.size + 1 + 1 + 1, 0, none⟩), .pointer (some ⟨w.heap.size + 1 + 1, 0, none⟩), .pointer (some ⟨w.heap.size + 1 + 1 + 2, 0, none⟩)], .string x, undef, undef, undef, undef, undef, undef, undef, undef, undef, undef], defers := [] }) ?assign ?body ?done ?stop
  case assign =>
   intro l x W K hK
   gi_wp2
   exact hK
  case body =>
   rintro l pre x W ⟨⟨hp, hc, hf, hcl, hfl⟩, hBW⟩ hpx
   have hx : x.size ≤ 140737488355328 := Nat.le_trans (cuts_size (mem_of_prefix hpx)) hs
   have hW := hBW.size
   have hat := Pl.addrLabel_is x hx (x.size + 1) (Nat.le_refl _)
   have h11 : 1 ≤ 3 - 1 - 1 := by decide
   cases ha : Pl.label x with
   | true =>
    rw [ha] at hat
    have hnew : Pl.domLong a0 (pre ++ [x]) = (Pl.domLong a0 pre || decide (63 < (x.size : Int))) := by simp [Pl.domLong, Bool.or_assoc]
    have hnew' := Aside0.mk hnew
    clear hnew
    have kd : ∀ (W' : World) (v : Value), KeptD (fun b => w.heap.size + 1 + 1 ≤ b ∧ b ≤ w.heap.size + 1 + 1 + 2) W' (W'.setCell ⟨w.heap.size + 1, 0, none⟩ v) := fun W' v b hb => Below.heap_setCell _ _ _ _ (by simp; omega)
    obtain ⟨lb, hlb⟩ : ∃ lb, Pl.domLong a0 pre = lb := ⟨_, rfl⟩
    rw [hlb] at hcl
    have hlb' := Aside0.mk hlb
    clear hlb
    cases lb with
    | true =>
     gi_wp2_with (refine ⟨trivial, ?_⟩; gi_at_call 63; refine (CallsIn.inRound l (callsIn_wide.2 (addr_label.calls _ x true W hat))).mono ?_; rintro e w' ⟨rfl, ⟨⟨nd, rfl⟩⟩⟩)
     refine ⟨KeepsOthers.trans (⟨Nat.le_refl _, fun _ _ h _ => h⟩ : KeepsOthers W (W.drewN nd)) (KeepsOthers.setCell _ _ _), kd (W.drewN nd) _, ⟨by simp [hp, ha], (World.cell?_setCell_other _ _ _ _ (by simp)).trans hc, by rw [World.frozen?_setCell]; exact hf, ?_, by rw [World.frozen?_setCell]; exact hfl⟩, (pw_below_drewN hBW nd).setCell (p := ⟨w.heap.size + 1, 0, none⟩) (by simp) _⟩
     rw [hnew'.out, hlb'.out]
     exact World.cell?_setCell_same' _ _ _ (by rw [show (W.drewN nd).cell? ⟨w.heap.size + 1, 0, none⟩ = _ from hcl]; rfl)
    | false =>
     gi_wp2_with (refine ⟨trivial, ?_⟩; gi_at_call 63; refine (CallsIn.inRound l (callsIn_wide.2 (addr_label.calls _ x true W hat))).mono ?_; rintro e w' ⟨rfl, ⟨⟨nd, rfl⟩⟩⟩)
     refine ⟨KeepsOthers.trans (⟨Nat.le_refl _, fun _ _ h _ => h⟩ : KeepsOthers W (W.drewN nd)) (KeepsOthers.setCell _ _ _), kd (W.drewN nd) _, ⟨by simp [hp, ha], (World.cell?_setCell_other _ _ _ _ (by simp)).trans hc, by rw [World.frozen?_setCell]; exact hf, ?_, by rw [World.frozen?_setCell]; exact hfl⟩, (pw_below_drewN hBW nd).setCell (p := ⟨w.heap.size + 1, 0, none⟩) (by simp) _⟩
     rw [hnew'.out, hlb'.out]
     exact World.cell?_setCell_same' _ _ _ (by rw [show (W.drewN nd).cell? ⟨w.heap.size + 1, 0, none⟩ = _ from hcl]; rfl)
   | false =>
    rw [ha] at hat
    gi_wp2_with (refine ⟨trivial, ?_⟩; gi_at_call 63; refine (CallsIn.inRound l (callsIn_wide.2 (addr_label.calls _ x false W hat))).mono ?_; rintro e w' ⟨rfl, ⟨⟨nd, rfl⟩⟩⟩)
    exact ⟨KeepsOthers.trans (⟨Nat.le_refl _, fun _ _ h _ => h⟩ : KeepsOthers W (W.drewN nd)) (KeepsOthers.setCell _ _ _), ⟨rfl, by simp [ha], World.cell?_setCell_same' _ _ _ (by rw [show (W.drewN nd).cell? ⟨w.heap.size, 0, none⟩ = _ from hc]; rfl)⟩, (pw_below_drewN hBW nd).setCell (p := ⟨w.heap.size, 0, none⟩) (Nat.le_refl _) _⟩
  case done =>
   rintro d W hd ⟨⟨hp, hc, hf, hcl, hfl⟩, hBW⟩ hK
   have hgood : Pl.domain a0 = if Pl.domLong a0 (Pl.dots a0) = true then 2 else 0 := by unfold Pl.domain; rw [if_pos hp]
   obtain ⟨lb, hlb⟩ : ∃ lb, Pl.domLong a0 (Pl.dots a0) = lb := ⟨_, rfl⟩
   rw [hlb] at hcl hgood
   clear hlb
   have hgood' := Aside0.mk hgood
   clear hgood
   cases lb with
   | true =>
    gi_wp2
    have hK' := (KeepsOthers.setCell W ⟨w.heap.size, 0, none⟩ (.int .i64 2)).same d _ hK rfl
    refine ⟨by simp, .inl ⟨_, _, rfl, run_takeDeferred hK', ?_⟩⟩
    have hc5 := cell_kept (World.cell?_setCell_same' W ⟨w.heap.size, 0, none⟩ (.int .i64 2) (by rw [hc]; rfl)) (grownBy_putObj' _ d (.deferred none)) (fun r e => by cases e; exact ⟨_, hK', rfl⟩)
    refine ⟨.int .i64 2, ?_, by rw [← HR.out, hgood'.out]; simp, (hBW.setCell (p := ⟨w.heap.size, 0, none⟩) (Nat.le_refl _) _).trans (belowK_b (w := w) (Nat.le_refl _) _ d _ _ (by omega) hK' rfl rfl)⟩
    simp [results, Tryd.f47, go_sem, hc5]
   | false =>
    gi_wp2
    have hK' := (KeepsOthers.setCell W ⟨w.heap.size, 0, none⟩ (.int .i64 0)).same d _ hK rfl
    refine ⟨by simp, .inl ⟨_, _, rfl, run_takeDeferred hK', ?_⟩⟩
    have hc5 := cell_kept (World.cell?_setCell_same' W ⟨w.heap.size, 0, none⟩ (.int .i64 0) (by rw [hc]; rfl)) (grownBy_putObj' _ d (.deferred none)) (fun r e => by cases e; exact ⟨_, hK', rfl⟩)
    refine ⟨.int .i64 0, ?_, by rw [← HR.out, hgood'.out]; simp, (hBW.setCell (p := ⟨w.heap.size, 0, none⟩) (Nat.le_refl _) _).trans (belowK_b (w := w) (Nat.le_refl _) _ d _ _ (by omega) hK' rfl rfl)⟩
    simp [results, Tryd.f47, go_sem, hc5]
  case stop =>
   rintro d c pre W hd hpre ⟨⟨rfl, hp, hc⟩, hBW⟩ hK
   gi_wp2
   refine ⟨by simp, .inl ⟨_, _, rfl, run_takeDeferred hK, ?_⟩⟩
   have hc5 := cell_kept hc (grownBy_putObj' _ d (.deferred none)) (fun r e => by cases e; exact ⟨_, hK, rfl⟩)
   have hall : (Pl.dots a0).all Pl.label = false := by
    rw [List.all_eq_false] at hp ⊢
    obtain ⟨y, hy, hn⟩ := hp
    exact ⟨y, hpre.subset hy, hn⟩
   have hd : Pl.domain a0 = 130 := by unfold Pl.domain; rw [if_neg (by rw [hall]; simp)]
   refine ⟨.int .i64 130, ?_, by rw [← HR.out, hd], hBW.trans (belowK_b (w := w) (Nat.le_refl _) W d _ _ (by omega) hK rfl rfl)⟩
   simp [results, Tryd.f47, go_sem, hc5]
 ·rw [if_neg hs] at h
  exact absurd h (by simp)
end Go.Proofs.YtnnlhpmkfijppaaDoor.Fn
namespace Go.Proofs.YtnnlhpmkfijppaaDoor.Fn
open Go.RowKit Go.Proofs.YtnnlhpmkfijppaaDoorW.PrintWords Go.Proofs.YtnnlhpmkfijppaaDoorW.PrintLast Go.Proofs.YtnnlhpmkfijppaaDoorW.PrintMore
attribute [local go_sem] max2_int min2_int max_two min_two max_three min_three max_four min_four
set_option linter.unusedVariables false
set_option linter.unusedSimpArgs false

def glyph_plain.f (a0 : Int) : Option (Bool) := if a0 ≥ 32 then (some (decide (a0 ≤ 126))) else (some false)
set_option maxHeartbeats 8000000 in
set_option maxRecDepth 100000 in
theorem glyph_plain.calls (a0 : Int) (r : Bool) (w : World) (h : glyph_plain.f a0 = some r) :
  Calls Tryd.prog 64 #[.int .i32 a0] w fun e w' => e = .returned (.bool r) ∧ Drawn0 w w' := by
 have H : (if a0 ≥ 32 then (some (decide (a0 ≤ 126))) else (some false)) = some r := h; clear h
 by_cases c2 : a0 ≥ 32
 ·rw [if_pos c2] at H; have c2b0 : decide (32 ≤ a0) = true := decide_eq_true c2; clear c2; obtain rfl := Option.some.inj H
  go_enter Tryd.func64, Tryd.ntmps64
  go_wp2
  go_ret
  exact ⟨cl, d0⟩
 ·rw [if_neg c2] at H; have c2b0 : decide (32 ≤ a0) = false := decide_eq_false c2; clear c2; obtain rfl := Option.some.inj H
  go_enter Tryd.func64, Tryd.ntmps64
  go_wp2
  go_ret
  exact ⟨cl, d0⟩

end Go.Proofs.YtnnlhpmkfijppaaDoor.Fn
set_option linter.unusedVariables false
namespace Go.Proofs.YtnnlhpmkfijppaaDoor.Pl
def plainR (r : Nat) : Bool := decide (32 ≤ r) && decide (r ≤ 126)
def plainFrom (s : ByteArray) : Nat → Nat → Bool
 | 0, _ => true
 | f + 1, pos => if pos < s.size then (if plainR (Utf8.decode s pos).1 = true then plainFrom s f (pos + (Utf8.decode s pos).2) else false) else true
def plain (s : ByteArray) : Bool := plainFrom s s.size 0
end Go.Proofs.YtnnlhpmkfijppaaDoor.Pl
namespace Go.Proofs.YtnnlhpmkfijppaaDoor.Fn
open Go.RowKit Go.Proofs.YtnnlhpmkfijppaaDoorW.PrintWords

def glyph_Plain.f (a0 : ByteArray) : Option Bool := if a0.size ≤ 140737488355328 then some (Pl.plain a0) else none
theorem glyph_plain_is (r : Nat) : glyph_plain.f (r : Int) = some (Pl.plainR r) := by
 unfold glyph_plain.f Pl.plainR
 by_cases h1 : (r : Int) ≥ 32
 ·rw [if_pos h1]
  simp [show 32 ≤ r by omega]
  omega
 ·rw [if_neg h1]
  simp [show ¬ 32 ≤ r by omega]

set_option maxHeartbeats 4000000 in
set_option maxRecDepth 100000 in
theorem glyph_Plain.calls (a0 : ByteArray) (r : Bool) (w : World) (h : glyph_Plain.f a0 = some r) :
  Calls Tryd.prog 48 #[.string a0] w fun e w' => e = .returned (.bool r) ∧ Below w.heap.size w w' := by
 unfold glyph_Plain.f at h
 by_cases hs : a0.size ≤ 140737488355328
 ·rw [if_pos hs] at h
  have HR := hid (Option.some.inj h)
  clear h
  go_enter Tryd.func48, Tryd.ntmps48
  go_wp2
  go_loopw [] (fun wr => ∃ (pos fuel : Nat), wr.heap[w.heap.size]? = some (.stringIter a0 pos) ∧ Below w.heap.size w wr ∧ Hid (Pl.plainFrom a0 fuel pos = r) ∧ a0.size ≤ pos + fuel) (fun wr => a0.size - wr.iterPos w.heap.size)
  case atStart =>
   refine ⟨0, a0.size, ?_, (Below.refl _ w).alloc (by simp) _, HR.out, by omega⟩
   have := World.iter_heap w a0 0
   simpa using this
  case round =>
   obtain ⟨pos, fuel, hit, hbw, hacc, hfu⟩ := hrel
   have hsz : w.heap.size < wr.heap.size := (Array.getElem?_eq_some_iff.1 hit).1
   by_cases hp : pos < a0.size
   ·have hnx : ∀ ty, (Instr.next (.pointer (some ⟨w.heap.size, 0, none⟩)) true ty).run Tryd.prog wr = _ := fun ty => Lib.run_next_any_at wr w.heap.size a0 pos ty hit hp
    have hwd : 1 ≤ (Utf8.decode a0 pos).2 := Pl.width_pos a0 pos hp
    have hit2 := Lib.iterAt_heap wr w.heap.size a0 pos (pos + (Utf8.decode a0 pos).2) hit
    have hbw2 := Lib.below_iterAt hbw (k := w.heap.size) (by omega) a0 (pos + (Utf8.decode a0 pos).2)
    obtain ⟨f, rfl⟩ : ∃ f, fuel = f + 1 := ⟨fuel - 1, by omega⟩
    have hct := glyph_plain_is (Utf8.decode a0 pos).1
    cases hc : Pl.plainR (Utf8.decode a0 pos).1 with
    | true =>
     have hstep : Hid (Pl.plainFrom a0 f (pos + (Utf8.decode a0 pos).2) = r) := by
      have := hacc.out
      rw [Pl.plainFrom, if_pos hp, if_pos hc] at this
      exact this
     rw [hc] at hct
     have HC := hid hct
     clear hct hc hacc
     go_wp2_with (first | (go_at_call 64; refine (glyph_plain.calls _ true _ HC.out).mono ?_; rintro e W0 ⟨rfl, ⟨⟨n0, rfl⟩⟩⟩))
     go_roundw
     case rel =>
      exact ⟨pos + (Utf8.decode a0 pos).2, f, hit2, pw_below_drewN hbw2 _, hstep, by omega⟩
     case measure =>
      have hit3 : ((wr.iterAt w.heap.size a0 (pos + (Utf8.decode a0 pos).2)).drewN n0).heap[w.heap.size]? = some (.stringIter a0 (pos + (Utf8.decode a0 pos).2)) := hit2
      simp only [World.iterPos, hit3, hit]
      omega
    | false =>
     have hstep := hacc.out
     rw [Pl.plainFrom, if_pos hp, if_neg (by rw [hc]; simp)] at hstep
     have HS := hid hstep
     rw [hc] at hct
     have HC := hid hct
     clear hct hc hacc hstep
     go_wp2_with (first | (go_at_call 64; refine (glyph_plain.calls _ false _ HC.out).mono ?_; rintro e W0 ⟨rfl, ⟨⟨n0, rfl⟩⟩⟩))
     go_ret
     exact ⟨by rw [← HS.out]; rfl, pw_below_drewN hbw2 _⟩
   ·have hnx : ∀ ty, (Instr.next (.pointer (some ⟨w.heap.size, 0, none⟩)) true ty).run Tryd.prog wr = _ := fun ty => Lib.run_next_end_at wr w.heap.size a0 pos ty hit hp
    have hend : Hid (r = true) := by
     have := hacc.out
     show _ = _
     cases fuel with
     | zero => rw [Pl.plainFrom] at this; exact this.symm
     | succ f => rw [Pl.plainFrom, if_neg hp] at this; exact this.symm
    clear hacc
    go_wp2
    go_ret
    exact ⟨by rw [hend.out]; rfl, hbw⟩
 ·rw [if_neg hs] at h
  exact absurd h (by simp)
end Go.Proofs.YtnnlhpmkfijppaaDoor.Fn
namespace Go.Proofs.YtnnlhpmkfijppaaDoor.Fn
open Go.RowKit Go.Proofs.YtnnlhpmkfijppaaDoorW.PrintWords Go.Proofs.YtnnlhpmkfijppaaDoorW.PrintLast Go.Proofs.YtnnlhpmkfijppaaDoorW.PrintMore
attribute [local go_sem] max2_int min2_int max_two min_two max_three min_three max_four min_four
set_option linter.unusedVariables false
set_option linter.unusedSimpArgs false

def addr_why.j0 : Nat → Int → Bool → ByteArray → ByteArray → Option (Int)
 | 0, _, _, _, _ => none
 | k + 1, x3, x19, x134000, x134001 => if x19 = true then (some 130) else (if x3 = 0 then (if (x134000.size : Int) > 64 then (some 2) else ((addr_Addr_Text.f k x134000 x134001).bind fun t136 => (if (t136.size : Int) > 254 then (some 2) else (some 0)))) else (some 2))
def addr_why.f (k : Nat) (a0_0 : ByteArray) (a0_1 : ByteArray) : Option (Int) := (addr_domain.f a0_1).bind fun t134 => (if t134 = 130 then (addr_why.j0 k t134 true a0_0 a0_1) else (if a0_0.toList = ([] : List UInt8) then (addr_why.j0 k t134 true a0_0 a0_1) else ((glyph_Plain.f a0_0).bind fun t135 => (addr_why.j0 k t134 (!t135) a0_0 a0_1))))
theorem addr_why.mono_l : ∀ k, (∀ y0 y1 y2 y3, LeO (addr_why.j0 k y0 y1 y2 y3) (addr_why.j0 (k + 1) y0 y1 y2 y3))
 | 0 => fun _ _ _ _ r h => by simp [addr_why.j0] at h
 | k + 1 => by
  have ih0 := addr_why.mono_l k
  ·intro y0 y1 y2 y3; unfold addr_why.j0
   repeat' first
   | (with_reducible exact ih0 _ _ _ _)
   | (with_reducible exact addr_Addr_Text.mono _ _ _)
   | (with_reducible exact LeO.refl _)
   | (with_reducible exact LeO.none _)
   | (with_reducible refine LeO.ite ?_ ?_)
   | (with_reducible refine LeO.bind ?_ (fun _ => ?_))
   | exact ih0 _ _ _ _
   | exact addr_Addr_Text.mono _ _ _
   | exact LeO.none _
   | refine LeO.ite ?_ ?_
   | refine LeO.bind ?_ (fun _ => ?_)
theorem addr_why.mono : ∀ a0 a1 k, LeO (addr_why.f k a0 a1) (addr_why.f (k + 1) a0 a1) := by
 intro a0 a1 k; have ih0 := addr_why.mono_l k; unfold addr_why.f
 repeat' first
   | (with_reducible exact ih0 _ _ _ _)
   | (with_reducible exact addr_Addr_Text.mono _ _ _)
   | (with_reducible exact LeO.refl _)
   | (with_reducible exact LeO.none _)
   | (with_reducible refine LeO.ite ?_ ?_)
   | (with_reducible refine LeO.bind ?_ (fun _ => ?_))
   | exact ih0 _ _ _ _
   | exact addr_Addr_Text.mono _ _ _
   | exact LeO.none _
   | refine LeO.ite ?_ ?_
   | refine LeO.bind ?_ (fun _ => ?_)
set_option maxHeartbeats 8000000 in
set_option maxRecDepth 100000 in
theorem addr_why.calls (k : Nat) (a0_0 : ByteArray) (a0_1 : ByteArray) (r : Int) (w : World) (h : addr_why.f k a0_0 a0_1 = some r) :
  Calls Tryd.prog 35 #[.agg #[.string a0_0, .string a0_1]] w fun e w' => e = .returned (.int .i64 r) ∧ Below w.heap.size w w' := by
 have hu27 := Tryd.underlying27; have HB := Aside0.mk (Below.refl w.heap.size w); have H : ((addr_domain.f a0_1).bind fun t134 => (if t134 = 130 then (addr_why.j0 k t134 true a0_0 a0_1) else (if a0_0.toList = ([] : List UInt8) then (addr_why.j0 k t134 true a0_0 a0_1) else ((glyph_Plain.f a0_0).bind fun t135 => (addr_why.j0 k t134 (!t135) a0_0 a0_1))))) = some r := h; clear h; replace H := Option.bind_eq_some_iff.mp H; obtain ⟨t134, A20, H⟩ := H; replace H : (if t134 = 130 then (addr_why.j0 k t134 true a0_0 a0_1) else (if a0_0.toList = ([] : List UInt8) then (addr_why.j0 k t134 true a0_0 a0_1) else ((glyph_Plain.f a0_0).bind fun t135 => (addr_why.j0 k t134 (!t135) a0_0 a0_1)))) = some r := H; have A2 := Aside0.mk A20; clear A20; have HC3 := Aside0.mk H; clear H
 go_enter Tryd.func35, Tryd.ntmps35
 go_upto_region 2 with (first | ((with_reducible refine gate_dst (N := 1) rfl ?_); (try (refine gate_guard (by rfl) ?_; dsimp only)); refine box_event ?hg (N := 1) ?hd (cs := #[.string a0_0, .string a0_1]) (t := 27) ?hr ?_; (case hd => rfl); (case hg => rfl); (case hr => first | (go_simp; done) | (go_simp; rfl)); intro gb133 hg w4 hbox hb; have n0_ := Aside0.mk (below_step bw hb); have n1_ := Aside0.mk (hbox); have n2_ := Aside0.mk ((by rw [hg]; exact (below_size bw) : w.heap.size ≤ gb133)); have n3_ := Aside0.mk ((by rw [hg]; exact (below_size bw) : w.heap.size ≤ gb133)); clear HB; have HB := n0_; have BK133 := n1_; have GW133 := n2_; have GE133 := n3_; clear n0_ n1_ n2_ n3_; clear hb hbox hg; have hcz5_0 : w4.cell? ⟨gb133, 0, none⟩ = some (.string a0_0) := (blk_cell BK133.out 0).trans rfl; have hcz5_1 : w4.cell? ⟨gb133, 1, none⟩ = some (.string a0_1) := (blk_cell BK133.out 1).trans rfl; have hfz5_0 := blk_frozen BK133.out 0; have hfz5_1 := blk_frozen BK133.out 1) | ((with_reducible refine gate_callee (f := 47) rfl ?_); refine goesL_ (some 6) rfl rfl Tryd.func47 (by kernel_rfl) rfl #[.string a0_1] rfl am ?_; (with_reducible refine (addr_domain.calls a0_1 t134 _ A2.out).mono ?_); rintro e w6 ⟨rfl, hb⟩; refine ⟨_, rfl, ?_⟩; have n0_ := Aside0.mk (blk_below (g := gb133) (o := .cells #[.string a0_0, .string a0_1] 27 (0, 0)) bk hb); have n1_ := Aside0.mk (below_step bwS hb); clear BK133; clear HB; have BK133 := n0_; have HB := n1_; clear n0_ n1_; (try clear hb); (try clear hb2); (try clear hk); (try clear hi)))
 (try simp only [Act.put, List.setIfInBounds_toArray, List.set_cons_zero, List.set_cons_succ])
 go_cut [19] (fun v19 wc => ∃ (kq : Nat) (x19_2 : Bool), v19 = .bool x19_2 ∧ Aside0 (addr_why.j0 kq t134 x19_2 a0_0 a0_1 = some r) ∧ Aside0 (kq ≤ k) ∧ Aside0 (wc.heap[gb133]? = some (.cells #[.string a0_0, .string a0_1] 27 (0, 0))) ∧ Aside0 (Below w.heap.size w wc))
 case first =>
  have H := HC3.out; clear HC3
  by_cases c7 : t134 = 130
  ·rw [if_pos c7] at H; have c7b0 : (t134 == 130) = true := beq_iff_eq.mpr c7; have c7b1 : (t134 != 130) = false := bne_eq_false_iff_eq.mpr c7; clear c7
   (first | rw [c7b0] | (simp only [i64_w, i32_w]; rw [c7b0]) | skip)
   have H' := Aside0.mk H; clear H
   go_wp2
   go_meet
   case rel => exact ⟨_, (true), cl, H', ⟨by first | omega | exact Nat.le_refl _⟩, ⟨bk⟩, ⟨bwS⟩⟩
  ·rw [if_neg c7] at H; have c7b0 : (t134 == 130) = false := beq_eq_false_iff_ne.mpr c7; have c7b1 : (t134 != 130) = true := bne_iff_ne.mpr c7
   (first | rw [c7b0] | (simp only [i64_w, i32_w]; rw [c7b0]) | skip)
   by_cases c8 : a0_0.toList = ([] : List UInt8)
   ·rw [if_pos c8] at H; have c8b0 : (a0_0.toList == ([] : List UInt8)) = true := beq_iff_eq.mpr c8; have c8b1 : (a0_0.toList != ([] : List UInt8)) = false := bne_eq_false_iff_eq.mpr c8; clear c8; have H' := Aside0.mk H; clear H; have hcz9_0 : w6.cell? ⟨gb133, 0, none⟩ = some (.string a0_0) := (blk_cell BK133.out 0).trans rfl; have hcz9_1 : w6.cell? ⟨gb133, 1, none⟩ = some (.string a0_1) := (blk_cell BK133.out 1).trans rfl; have hfz9_0 := blk_frozen BK133.out 0; have hfz9_1 := blk_frozen BK133.out 1
    go_wp2
    go_meet
    case rel => exact ⟨_, (true), cl, H', ⟨by first | omega | exact Nat.le_refl _⟩, ⟨bk⟩, ⟨bwS⟩⟩
   ·rw [if_neg c8] at H; have c8b0 : (a0_0.toList == ([] : List UInt8)) = false := beq_eq_false_iff_ne.mpr c8; have c8b1 : (a0_0.toList != ([] : List UInt8)) = true := bne_iff_ne.mpr c8; replace H := Option.bind_eq_some_iff.mp H; obtain ⟨t135, A100, H⟩ := H; replace H : (addr_why.j0 k t134 (!t135) a0_0 a0_1) = some r := H; have A10 := Aside0.mk A100; clear A100; have H' := Aside0.mk H; clear H; have hcz11_0 : w6.cell? ⟨gb133, 0, none⟩ = some (.string a0_0) := (blk_cell BK133.out 0).trans rfl; have hcz11_1 : w6.cell? ⟨gb133, 1, none⟩ = some (.string a0_1) := (blk_cell BK133.out 1).trans rfl; have hfz11_0 := blk_frozen BK133.out 0; have hfz11_1 := blk_frozen BK133.out 1
    go_wp2_with (first | (go_at_call 48; (with_reducible refine (glyph_Plain.calls a0_0 t135 _ A10.out).mono ?_); rintro e w12 ⟨rfl, hb⟩; have n0_ := Aside0.mk (blk_below (g := gb133) (o := .cells #[.string a0_0, .string a0_1] 27 (0, 0)) bk hb); have n1_ := Aside0.mk (below_step bwS hb); clear BK133; clear HB; have BK133 := n0_; have HB := n1_; clear n0_ n1_; (try clear hb); (try clear hb2); (try clear hk); (try clear hi)))
    go_meet
    case rel => exact ⟨_, (!t135), cl, H', ⟨by first | omega | exact Nat.le_refl _⟩, ⟨bk⟩, ⟨bwS⟩⟩
 case rest =>
  clear HC3
  try clear p2
  try clear c3
  try clear c4
  try clear c7
  try clear c7b0
  try clear c7b1
  try clear c8
  try clear c8b0
  try clear c8b1
  try clear hcz11_0
  try clear hcz11_1
  try clear hcz5_0
  try clear hcz5_1
  try clear hcz9_0
  try clear hcz9_1
  try clear hfz11_0
  try clear hfz11_1
  try clear hfz5_0
  try clear hfz5_1
  try clear hfz9_0
  try clear hfz9_1
  obtain ⟨kq, x19_2, rfl, HA, HJ2, BK133, HB⟩ := hcut; cases kq with
  | zero => exact absurd HA.out (by simp [addr_why.j0])
  | succ kj2 =>
   have H := HA.out; clear HA; simp only [addr_why.j0] at H
   by_cases c13 : x19_2 = true
   ·subst c13; have H1 : (some 130) = some r := by rw [if_pos rfl] at H; exact H
    clear H; have H := H1; clear H1; obtain rfl := Option.some.inj H
    go_wp2
    go_ret
    exact ⟨ew, bwS⟩
   ·replace c13 := Bool.eq_false_iff.mpr c13; subst c13; have H1 : (if t134 = 0 then (if (a0_0.size : Int) > 64 then (some 2) else ((addr_Addr_Text.f kj2 a0_0 a0_1).bind fun t136 => (if (t136.size : Int) > 254 then (some 2) else (some 0)))) else (some 2)) = some r := by rw [if_neg (show ¬ (false = true) by decide)] at H; exact H
    clear H; have H := H1; clear H1
    by_cases c14 : t134 = 0
    ·rw [if_pos c14] at H; have c14b0 : (t134 == 0) = true := beq_iff_eq.mpr c14; have c14b1 : (t134 != 0) = false := bne_eq_false_iff_eq.mpr c14; clear c14
     by_cases c15 : (a0_0.size : Int) > 64
     ·rw [if_pos c15] at H; have c15b0 : decide (64 < (a0_0.size : Int)) = true := decide_eq_true c15; have c15b1 : decide (64 < a0_0.size) = true := decide_eq_true (by omega); clear c15; obtain rfl := Option.some.inj H; have hcz16_0 : wc.cell? ⟨gb133, 0, none⟩ = some (.string a0_0) := (blk_cell BK133.out 0).trans rfl; have hcz16_1 : wc.cell? ⟨gb133, 1, none⟩ = some (.string a0_1) := (blk_cell BK133.out 1).trans rfl; have hfz16_0 := blk_frozen BK133.out 0; have hfz16_1 := blk_frozen BK133.out 1
      go_wp2
      go_ret
      exact ⟨ew, bwS⟩
     ·rw [if_neg c15] at H; have c15b0 : decide (64 < (a0_0.size : Int)) = false := decide_eq_false c15; have c15b1 : decide (64 < a0_0.size) = false := decide_eq_false (by omega); clear c15; replace H := Option.bind_eq_some_iff.mp H; obtain ⟨t136, A170, H⟩ := H; replace H : (if (t136.size : Int) > 254 then (some 2) else (some 0)) = some r := H; have A17 := Aside0.mk A170; clear A170
      by_cases c18 : (t136.size : Int) > 254
      ·rw [if_pos c18] at H; have c18b0 : decide (254 < (t136.size : Int)) = true := decide_eq_true c18; have c18b1 : decide (254 < t136.size) = true := decide_eq_true (by omega); clear c18; obtain rfl := Option.some.inj H; have hcz19_0 : wc.cell? ⟨gb133, 0, none⟩ = some (.string a0_0) := (blk_cell BK133.out 0).trans rfl; have hcz19_1 : wc.cell? ⟨gb133, 1, none⟩ = some (.string a0_1) := (blk_cell BK133.out 1).trans rfl; have hfz19_0 := blk_frozen BK133.out 0; have hfz19_1 := blk_frozen BK133.out 1
       go_wp2_with (first | (go_at_call 20; (with_reducible refine (addr_Addr_Text.calls kj2 a0_0 a0_1 t136 _ A17.out).mono ?_); rintro e w20 ⟨rfl, hb⟩; have n0_ := Aside0.mk (blk_below (g := gb133) (o := .cells #[.string a0_0, .string a0_1] 27 (0, 0)) bk hb); have n1_ := Aside0.mk (below_step bwS hb); clear BK133; clear HB; have BK133 := n0_; have HB := n1_; clear n0_ n1_; (try clear hb); (try clear hb2); (try clear hk); (try clear hi)))
       go_ret
       exact ⟨ew, bwS⟩
      ·rw [if_neg c18] at H; have c18b0 : decide (254 < (t136.size : Int)) = false := decide_eq_false c18; have c18b1 : decide (254 < t136.size) = false := decide_eq_false (by omega); clear c18; obtain rfl := Option.some.inj H; have hcz21_0 : wc.cell? ⟨gb133, 0, none⟩ = some (.string a0_0) := (blk_cell BK133.out 0).trans rfl; have hcz21_1 : wc.cell? ⟨gb133, 1, none⟩ = some (.string a0_1) := (blk_cell BK133.out 1).trans rfl; have hfz21_0 := blk_frozen BK133.out 0; have hfz21_1 := blk_frozen BK133.out 1
       go_wp2_with (first | (go_at_call 20; (with_reducible refine (addr_Addr_Text.calls kj2 a0_0 a0_1 t136 _ A17.out).mono ?_); rintro e w22 ⟨rfl, hb⟩; have n0_ := Aside0.mk (blk_below (g := gb133) (o := .cells #[.string a0_0, .string a0_1] 27 (0, 0)) bk hb); have n1_ := Aside0.mk (below_step bwS hb); clear BK133; clear HB; have BK133 := n0_; have HB := n1_; clear n0_ n1_; (try clear hb); (try clear hb2); (try clear hk); (try clear hi)))
       go_ret
       exact ⟨ew, bwS⟩
    ·rw [if_neg c14] at H; have c14b0 : (t134 == 0) = false := beq_eq_false_iff_ne.mpr c14; have c14b1 : (t134 != 0) = true := bne_iff_ne.mpr c14; obtain rfl := Option.some.inj H
     go_wp2
     go_ret
     exact ⟨ew, bwS⟩

end Go.Proofs.YtnnlhpmkfijppaaDoor.Fn
set_option linter.unusedVariables false
namespace Go.Proofs.YtnnlhpmkfijppaaDoor.Fn
open Go.RowKit

def glyph_Fold.f (a0 : ByteArray) : Option ByteArray := if a0.size ≤ 35184372088832 then some (Pl.str (Pl.fold a0.data.toList)) else none

set_option maxHeartbeats 2000000 in
set_option maxRecDepth 100000 in
theorem glyph_Fold.calls (a0 : ByteArray) (r : ByteArray) (w : World) (h : glyph_Fold.f a0 = some r) :
  Calls Tryd.prog 36 #[.string a0] w fun e w' => e = .returned (.string r) ∧ Below w.heap.size w w' := by
 unfold glyph_Fold.f at h
 by_cases hs : a0.size ≤ 35184372088832
 ·rw [if_pos hs] at h
  have HR := hid (Option.some.inj h)
  clear h
  go_enter Tryd.func36, Tryd.ntmps36
  go_wp2
  go_loopw [8] (fun v8 wr => ∃ k : Nat, k ≤ a0.size ∧ v8 = .int .i64 k ∧ isBd w.heap.size w.heap.size (Lib.byteCells (Pl.fold (a0.data.toList.take k))) wr ∧ Below w.heap.size w wr) (fun v8 _ => a0.size - (intOf v8).toNat)
  case atStart => exact ⟨0, Nat.zero_le _, rfl, Lib.IsBuilderF.of (Lib.fresh_isBuilder _ _ w), (Below.refl _ w).alloc (Nat.le_refl _) _⟩
  case round =>
   obtain ⟨k, hk, rfl, hI, hbw⟩ := hrel
   have hl : (Pl.fold (a0.data.toList.take k)).length ≤ k := by rw [Pl.fold_length]; exact List.length_take_le _ _
   have hBw := hbw.size
   by_cases hlt : k < a0.size
   ·have hsn := hid (Pl.fold_snoc a0 k hlt)
    have hgo : ∀ c : Int, c = (Pl.foldB a0[k]).toNat → Lib.byteCells (Pl.fold (a0.data.toList.take k)) ++ [Value.int .u8 c] = Lib.byteCells (Pl.fold (a0.data.toList.take (k + 1))) := by
     rintro c rfl
     rw [hsn.out, Lib.byteCells_append]
     rfl
    have HG := hid hgo
    clear hgo
    by_cases hu : 65 ≤ (a0[k].toNat : Int) ∧ (a0[k].toNat : Int) ≤ 90
    ·have hc := hid (Pl.foldB_up a0[k] hu)
     obtain ⟨hu1, hu2⟩ := hu
     go_wp2_with (go_at_call 49; refine (bd_byte w.heap.size w.heap.size _ _ _ hI (by rw [Lib.byteCells_length]; omega) hBw).mono ?_; rintro e W1 ⟨rfl, h1, b1, _⟩; rw [HG.out _ hc.out] at h1)
     go_roundw
     case rel => exact ⟨k + 1, by omega, by go_num, h1.is, hbw.trans b1⟩
     case measure => simp [intOf]; omega
    ·have hc := hid (Pl.foldB_no a0[k] hu)
     by_cases hu1 : 65 ≤ (a0[k].toNat : Int)
     ·have hu2 : 90 < (a0[k].toNat : Int) := by omega
      clear hu
      go_wp2_with (go_at_call 49; refine (bd_byte w.heap.size w.heap.size _ _ _ hI (by rw [Lib.byteCells_length]; omega) hBw).mono ?_; rintro e W1 ⟨rfl, h1, b1, _⟩; rw [HG.out _ hc.out] at h1)
      go_roundw
      case rel => exact ⟨k + 1, by omega, by go_num, h1.is, hbw.trans b1⟩
      case measure => simp [intOf]; omega
     ·have hu2 : (a0[k].toNat : Int) < 65 := by omega
      clear hu hu1
      go_wp2_with (go_at_call 49; refine (bd_byte w.heap.size w.heap.size _ _ _ hI (by rw [Lib.byteCells_length]; omega) hBw).mono ?_; rintro e W1 ⟨rfl, h1, b1, _⟩; rw [HG.out _ hc.out] at h1)
      go_roundw
      case rel => exact ⟨k + 1, by omega, by go_num, h1.is, hbw.trans b1⟩
      case measure => simp [intOf]; omega
   ·have hend := hid (show Pl.fold (a0.data.toList.take k) = Pl.fold a0.data.toList by rw [List.take_of_length_le (by rw [Pl.data_length]; omega)])
    go_wp2_with (go_at_call 31; refine (Tryd.Builder_String_any_k w.heap.size w.heap.size _ _ hI hBw).mono ?_; rintro e W1 ⟨rfl, _, b1, _⟩)
    go_ret
    exact ⟨by rw [← HR.out, ← hend.out]; rfl, hbw.trans b1⟩
 ·rw [if_neg hs] at h
  exact absurd h (by simp)
end Go.Proofs.YtnnlhpmkfijppaaDoor.Fn
namespace Go.Proofs.YtnnlhpmkfijppaaDoor.Fn
open Go.RowKit Go.Proofs.YtnnlhpmkfijppaaDoorW.PrintWords Go.Proofs.YtnnlhpmkfijppaaDoorW.PrintLast Go.Proofs.YtnnlhpmkfijppaaDoorW.PrintMore
attribute [local go_sem] max2_int min2_int max_two min_two max_three min_three max_four min_four
set_option linter.unusedVariables false
set_option linter.unusedSimpArgs false

attribute [local go_sem high] eqA27
def addr_Addr_Right.f (k : Nat) (a0_0 : ByteArray) (a0_1 : ByteArray) : Option (Bool) := (addr_why.f k a0_0 a0_1).bind fun t138 => (if t138 = 0 then ((glyph_Fold.f a0_1).bind fun t139 => (some (a0_1.toList == t139.toList))) else (some false))
theorem addr_Addr_Right.mono : ∀ a0 a1 k, LeO (addr_Addr_Right.f k a0 a1) (addr_Addr_Right.f (k + 1) a0 a1) := by
 intro a0 a1 k; unfold addr_Addr_Right.f
 repeat' first
   | (with_reducible exact addr_why.mono _ _ _)
   | (with_reducible exact LeO.refl _)
   | (with_reducible exact LeO.none _)
   | (with_reducible refine LeO.ite ?_ ?_)
   | (with_reducible refine LeO.bind ?_ (fun _ => ?_))
   | exact addr_why.mono _ _ _
   | exact LeO.none _
   | refine LeO.ite ?_ ?_
   | refine LeO.bind ?_ (fun _ => ?_)
def addr_Addr_Right.T1 : Bool × List (List Nat × List Nat) := (true, [([], []), ([0], [0]), ([1], [1]), ([2, 1], [2]), ([3], [3]), ([3], [3]), ([5, 3], [3, 5]), ([3], [3]), ([7, 3], [3, 7]), ([8, 3, 3], [3, 8]), ([6, 9, 3], [3, 6, 9]), ([4, 10, 3], [3, 4, 10]), ([3, 11], [3, 11]), ([12, 9, 0, 1, 2, 3, 4, 5, 6, 7, 8, 9, 10, 11, 12], [12])])
def addr_Addr_Right.B1 : List Nat := [0, 1, 3, 7, 15, 15, 47, 15, 143, 399, 1007, 2047, 4095, 8191]
theorem addr_Addr_Right.tab1 : rtab .any (opsOf Tryd.f24 1) = addr_Addr_Right.T1 := by kernel_rfl
theorem addr_Addr_Right.bits1 : waitsOk addr_Addr_Right.T1.2 addr_Addr_Right.B1 = true := by kernel_rfl
set_option maxHeartbeats 8000000 in
set_option maxRecDepth 100000 in
theorem addr_Addr_Right.calls (k : Nat) (a0_0 : ByteArray) (a0_1 : ByteArray) (r : Bool) (w : World) (h : addr_Addr_Right.f k a0_0 a0_1 = some r) :
  Calls Tryd.prog 24 #[.agg #[.string a0_0, .string a0_1]] w fun e w' => e = .returned (.bool r) ∧ Below w.heap.size w w' := by
 have hu27 := Tryd.underlying27; have HB := Aside0.mk (Below.refl w.heap.size w); have H : ((addr_why.f k a0_0 a0_1).bind fun t138 => (if t138 = 0 then ((glyph_Fold.f a0_1).bind fun t139 => (some (a0_1.toList == t139.toList))) else (some false))) = some r := h; clear h; replace H := Option.bind_eq_some_iff.mp H; obtain ⟨t138, A20, H⟩ := H; replace H : (if t138 = 0 then ((glyph_Fold.f a0_1).bind fun t139 => (some (a0_1.toList == t139.toList))) else (some false)) = some r := H; have A2 := Aside0.mk A20; clear A20
 by_cases c3 : t138 = 0
 ·rw [if_pos c3] at H; have c3b0 : (t138 == 0) = true := beq_iff_eq.mpr c3; have c3b1 : (t138 != 0) = false := bne_eq_false_iff_eq.mpr c3; clear c3; replace H := Option.bind_eq_some_iff.mp H; obtain ⟨t139, A40, H⟩ := H; replace H : (some (a0_1.toList == t139.toList)) = some r := H; have A4 := Aside0.mk A40; clear A40; obtain rfl := Option.some.inj H
  go_enter Tryd.func24, Tryd.ntmps24
  try go_wp2_with (first | ((with_reducible refine gate_dst (N := 1) rfl ?_); refine box_event ?hg (N := 1) ?hd (cs := #[.string a0_0, .string a0_1]) (t := 27) ?hr ?_; (case hd => rfl); (case hg => rfl); (case hr => first | (go_simp; done) | (go_simp; rfl)); intro gb137 hg w5 hbox hb; have n0_ := Aside0.mk (below_step bw hb); have n1_ := Aside0.mk (hbox); have n2_ := Aside0.mk ((by rw [hg]; exact (below_size bw) : w.heap.size ≤ gb137)); have n3_ := Aside0.mk ((by rw [hg]; exact (below_size bw) : w.heap.size ≤ gb137)); clear HB; have HB := n0_; have BK137 := n1_; have GW137 := n2_; have GE137 := n3_; clear n0_ n1_ n2_ n3_; clear hb hbox hg))
  have n0_ := Aside0.mk (blk_drew BK137.out); have n1_ := Aside0.mk (below_drew1 HB.out); clear BK137 HB; have BK137 := n0_; have HB := n1_; clear n0_ n1_; refine start_ (n := 14) (S := fun w' => w'.cell? ⟨gb137, 0, none⟩ = some (.string a0_0) ∧ w'.cell? ⟨gb137, 1, none⟩ = some (.string a0_1)) (ds := []) #[false, false, false, false, false, false, false, false, false, false, false, false, false, false] (by kernel_rfl) rfl rfl ⟨(blk_cell BK137.out 0).trans rfl, (blk_cell BK137.out 1).trans rfl⟩ (fun hHeld => ?_); refine with_tabW addr_Addr_Right.tab1 addr_Addr_Right.bits1 (fun HT_ HW_ => ?_)
  generalize w5.drew = w6 at BK137 HB hHeld ⊢
  refine take_ (i := 0) (N := some 3) (v := ?_) (a' := ?_) (bitsL 14 1) rfl rfl (take_ofW HT_.out HW_.out (by kernel_rfl)) (fun _ _ _ h => h) (Or.inl ⟨by rfl, ?_⟩) hHeld ?_ ?_; rotate_left
  ·rintro w' ⟨s0, s1⟩; go_simp; with_reducible rfl
  rotate_left
  ·simp only [Act.put, List.setIfInBounds_toArray, List.set_cons_zero, List.set_cons_succ, i64_w, i32_w]; rfl
  refine one_ (i := 1) (N := some 4) (bitsL 14 3) rfl rfl (one_of HT_.out (by kernel_rfl)) (by decide) (fun K hK => ?_); refine goes_ Tryd.func35 (by kernel_rfl) rfl #[.agg #[.string a0_0, .string a0_1]] (by rfl) rfl rfl am ?_; with_reducible refine (addr_why.calls k a0_0 a0_1 t138 _ A2.out).mono ?_
  rintro e w7 ⟨rfl, hb⟩; refine ⟨_, rfl, ?_⟩; have n0_ := Aside0.mk (blk_below (g := gb137) (o := .cells #[.string a0_0, .string a0_1] 27 (0, 0)) bk hb); have n1_ := Aside0.mk (below_step bwS hb); clear BK137 HB; have BK137 := n0_; have HB := n1_; clear n0_ n1_
  (try clear hb)
  (try clear hb2)
  (try clear hk)
  (try clear hi)
  refine hK.out _ _ ⟨(blk_cell BK137.out 0).trans rfl, (blk_cell BK137.out 1).trans rfl⟩ (fun hHeld => ?_); clear hK K; refine norm_ (a' := ?_) ?_ ?_; rotate_left
  ·show Act.put _ (some 4) _ = _
   simp only [Act.put, List.setIfInBounds_toArray, List.set_cons_zero, List.set_cons_succ, i64_w, i32_w]; rfl
  refine pure_ (i := 2) (N := some 5) (v := ?_) (a' := ?_) (bitsL 14 7) rfl rfl (any_of HT_.out (by kernel_rfl)) (fun _ _ _ h => h) (Or.inl ⟨by rfl, ?_⟩) ?_ ?_; rotate_left
  ·intro w'; go_simp; with_reducible rfl
  rotate_left
  ·simp only [Act.put, List.setIfInBounds_toArray, List.set_cons_zero, List.set_cons_succ, i64_w, i32_w]; rfl
  refine pure_ (i := 3) (N := some 6) (v := ?_) (a' := ?_) (bitsL 14 15) rfl rfl (any_of HT_.out (by kernel_rfl)) (fun _ _ _ h => h) (Or.inl ⟨by rfl, ?_⟩) ?_ ?_; rotate_left
  ·intro w'; go_simp; with_reducible rfl
  rotate_left
  ·simp only [Act.put, List.setIfInBounds_toArray, List.set_cons_zero, List.set_cons_succ, i64_w, i32_w]; rfl
  refine pure_ (i := 5) (N := some 8) (v := ?_) (a' := ?_) (bitsL 14 47) rfl rfl (any_of HT_.out (by kernel_rfl)) (fun _ _ _ h => h) (Or.inl ⟨by rfl, ?_⟩) ?_ ?_; rotate_left
  ·intro w'; go_simp; with_reducible rfl
  rotate_left
  ·simp only [Act.put, List.setIfInBounds_toArray, List.set_cons_zero, List.set_cons_succ, i64_w, i32_w]; rfl
  refine pure_ (i := 7) (N := some 10) (v := ?_) (a' := ?_) (bitsL 14 175) rfl rfl (any_of HT_.out (by kernel_rfl)) (fun _ _ _ h => h) (Or.inl ⟨by rfl, ?_⟩) ?_ ?_; rotate_left
  ·intro w'; go_simp; with_reducible rfl
  rotate_left
  ·simp only [Act.put, List.setIfInBounds_toArray, List.set_cons_zero, List.set_cons_succ, i64_w, i32_w]; rfl
  refine take_ (i := 4) (N := some 7) (v := ?_) (a' := ?_) (bitsL 14 191) rfl rfl (take_ofW HT_.out HW_.out (by kernel_rfl)) (fun _ _ _ h => h) (Or.inl ⟨by rfl, ?_⟩) hHeld ?_ ?_; rotate_left
  ·rintro w' ⟨s0, s1⟩; go_simp; with_reducible rfl
  rotate_left
  ·simp only [Act.put, List.setIfInBounds_toArray, List.set_cons_zero, List.set_cons_succ, i64_w, i32_w]; rfl
  refine take_ (i := 6) (N := some 9) (v := ?_) (a' := ?_) (bitsL 14 255) rfl rfl (take_ofW HT_.out HW_.out (by kernel_rfl)) (fun _ _ _ h => h) (Or.inl ⟨by rfl, ?_⟩) hHeld ?_ ?_; rotate_left
  ·rintro w' ⟨s0, s1⟩; go_simp; with_reducible rfl
  rotate_left
  ·simp only [Act.put, List.setIfInBounds_toArray, List.set_cons_zero, List.set_cons_succ, i64_w, i32_w]; rfl
  refine take_ (i := 8) (N := some 11) (v := ?_) (a' := ?_) (bitsL 14 511) rfl rfl (take_ofW HT_.out HW_.out (by kernel_rfl)) (fun _ _ _ h => h) (Or.inl ⟨by rfl, ?_⟩) hHeld ?_ ?_; rotate_left
  ·rintro w' ⟨s0, s1⟩; go_simp; with_reducible rfl
  rotate_left
  ·simp only [Act.put, List.setIfInBounds_toArray, List.set_cons_zero, List.set_cons_succ, i64_w, i32_w]; rfl
  refine one_ (i := 9) (N := some 12) (bitsL 14 1023) rfl rfl (one_of HT_.out (by kernel_rfl)) (by decide) (fun K hK => ?_); refine goes_ Tryd.func36 (by kernel_rfl) rfl #[.string a0_1] (by rfl) rfl rfl am ?_; with_reducible refine (glyph_Fold.calls a0_1 t139 _ A4.out).mono ?_
  rintro e w8 ⟨rfl, hb⟩; refine ⟨_, rfl, ?_⟩; have n0_ := Aside0.mk (blk_below (g := gb137) (o := .cells #[.string a0_0, .string a0_1] 27 (0, 0)) bk hb); have n1_ := Aside0.mk (below_step bwS hb); clear BK137 HB; have BK137 := n0_; have HB := n1_; clear n0_ n1_
  (try clear hb)
  (try clear hb2)
  (try clear hk)
  (try clear hi)
  refine hK.out _ _ ⟨(blk_cell BK137.out 0).trans rfl, (blk_cell BK137.out 1).trans rfl⟩ (fun hHeld => ?_); clear hK K; refine norm_ (a' := ?_) ?_ ?_; rotate_left
  ·show Act.put _ (some 12) _ = _
   simp only [Act.put, List.setIfInBounds_toArray, List.set_cons_zero, List.set_cons_succ, i64_w, i32_w]; rfl
  refine pure_ (i := 10) (N := some 13) (v := ?_) (a' := ?_) (bitsL 14 2047) rfl rfl (any_of HT_.out (by kernel_rfl)) (fun _ _ _ h => h) (Or.inl ⟨by rfl, ?_⟩) ?_ ?_; rotate_left
  ·intro w'; go_simp; with_reducible rfl
  rotate_left
  ·simp only [Act.put, List.setIfInBounds_toArray, List.set_cons_zero, List.set_cons_succ, i64_w, i32_w]; rfl
  refine pure_ (i := 11) (N := some 14) (v := ?_) (a' := ?_) (bitsL 14 4095) rfl rfl (any_of HT_.out (by kernel_rfl)) (fun _ _ _ h => h) (Or.inl ⟨by rfl, ?_⟩) ?_ ?_; rotate_left
  ·intro w'; go_simp; with_reducible rfl
  rotate_left
  ·simp only [Act.put, List.setIfInBounds_toArray, List.set_cons_zero, List.set_cons_succ, i64_w, i32_w]; rfl
  refine pure_ (i := 12) (N := some 15) (v := ?_) (a' := ?_) (bitsL 14 8191) rfl rfl (any_of HT_.out (by kernel_rfl)) (fun _ _ _ h => h) (Or.inl ⟨by rfl, ?_⟩) ?_ ?_; rotate_left
  ·intro w'; go_simp; with_reducible rfl
  rotate_left
  ·simp only [Act.put, List.setIfInBounds_toArray, List.set_cons_zero, List.set_cons_succ, i64_w, i32_w]; rfl
  refine pure_ (i := 13) (N := some 2) (v := ?_) (a' := ?_) (bitsL 14 16383) rfl rfl (any_of HT_.out (by kernel_rfl)) (fun _ _ _ h => h) (Or.inl ⟨by rfl, ?_⟩) ?_ ?_; rotate_left
  ·intro w'; go_simp; with_reducible rfl
  rotate_left
  ·simp only [Act.put, List.setIfInBounds_toArray, List.set_cons_zero, List.set_cons_succ, i64_w, i32_w]; rfl
  refine done_ (done_of HT_.out (by kernel_rfl)) ?_
  try go_wp2
  go_ret
  exact ⟨ew, bwS⟩
 ·rw [if_neg c3] at H; have c3b0 : (t138 == 0) = false := beq_eq_false_iff_ne.mpr c3; have c3b1 : (t138 != 0) = true := bne_iff_ne.mpr c3; obtain rfl := Option.some.inj H
  go_enter Tryd.func24, Tryd.ntmps24
  try go_wp2_with (first | ((with_reducible refine gate_dst (N := 1) rfl ?_); refine box_event ?hg (N := 1) ?hd (cs := #[.string a0_0, .string a0_1]) (t := 27) ?hr ?_; (case hd => rfl); (case hg => rfl); (case hr => first | (go_simp; done) | (go_simp; rfl)); intro gb137 hg w9 hbox hb; have n0_ := Aside0.mk (below_step bw hb); have n1_ := Aside0.mk (hbox); have n2_ := Aside0.mk ((by rw [hg]; exact (below_size bw) : w.heap.size ≤ gb137)); have n3_ := Aside0.mk ((by rw [hg]; exact (below_size bw) : w.heap.size ≤ gb137)); clear HB; have HB := n0_; have BK137 := n1_; have GW137 := n2_; have GE137 := n3_; clear n0_ n1_ n2_ n3_; clear hb hbox hg))
  have n0_ := Aside0.mk (blk_drew BK137.out); have n1_ := Aside0.mk (below_drew1 HB.out); clear BK137 HB; have BK137 := n0_; have HB := n1_; clear n0_ n1_; refine start_ (n := 14) (S := fun w' => w'.cell? ⟨gb137, 0, none⟩ = some (.string a0_0) ∧ w'.cell? ⟨gb137, 1, none⟩ = some (.string a0_1)) (ds := []) #[false, false, false, false, false, false, false, false, false, false, false, false, false, false] (by kernel_rfl) rfl rfl ⟨(blk_cell BK137.out 0).trans rfl, (blk_cell BK137.out 1).trans rfl⟩ (fun hHeld => ?_); refine with_tabW addr_Addr_Right.tab1 addr_Addr_Right.bits1 (fun HT_ HW_ => ?_)
  generalize w9.drew = w10 at BK137 HB hHeld ⊢
  refine take_ (i := 0) (N := some 3) (v := ?_) (a' := ?_) (bitsL 14 1) rfl rfl (take_ofW HT_.out HW_.out (by kernel_rfl)) (fun _ _ _ h => h) (Or.inl ⟨by rfl, ?_⟩) hHeld ?_ ?_; rotate_left
  ·rintro w' ⟨s0, s1⟩; go_simp; with_reducible rfl
  rotate_left
  ·simp only [Act.put, List.setIfInBounds_toArray, List.set_cons_zero, List.set_cons_succ, i64_w, i32_w]; rfl
  refine one_ (i := 1) (N := some 4) (bitsL 14 3) rfl rfl (one_of HT_.out (by kernel_rfl)) (by decide) (fun K hK => ?_); refine goes_ Tryd.func35 (by kernel_rfl) rfl #[.agg #[.string a0_0, .string a0_1]] (by rfl) rfl rfl am ?_; with_reducible refine (addr_why.calls k a0_0 a0_1 t138 _ A2.out).mono ?_
  rintro e w11 ⟨rfl, hb⟩; refine ⟨_, rfl, ?_⟩; have n0_ := Aside0.mk (blk_below (g := gb137) (o := .cells #[.string a0_0, .string a0_1] 27 (0, 0)) bk hb); have n1_ := Aside0.mk (below_step bwS hb); clear BK137 HB; have BK137 := n0_; have HB := n1_; clear n0_ n1_
  (try clear hb)
  (try clear hb2)
  (try clear hk)
  (try clear hi)
  refine hK.out _ _ ⟨(blk_cell BK137.out 0).trans rfl, (blk_cell BK137.out 1).trans rfl⟩ (fun hHeld => ?_); clear hK K; refine norm_ (a' := ?_) ?_ ?_; rotate_left
  ·show Act.put _ (some 4) _ = _
   simp only [Act.put, List.setIfInBounds_toArray, List.set_cons_zero, List.set_cons_succ, i64_w, i32_w]; rfl
  refine pure_ (i := 2) (N := some 5) (v := ?_) (a' := ?_) (bitsL 14 7) rfl rfl (any_of HT_.out (by kernel_rfl)) (fun _ _ _ h => h) (Or.inl ⟨by rfl, ?_⟩) ?_ ?_; rotate_left
  ·intro w'; go_simp; with_reducible rfl
  rotate_left
  ·simp only [Act.put, List.setIfInBounds_toArray, List.set_cons_zero, List.set_cons_succ, i64_w, i32_w]; rfl
  refine pure_ (i := 3) (N := some 6) (v := ?_) (a' := ?_) (bitsL 14 15) rfl rfl (any_of HT_.out (by kernel_rfl)) (fun _ _ _ h => h) (Or.inl ⟨by rfl, ?_⟩) ?_ ?_; rotate_left
  ·intro w'; go_simp; with_reducible rfl
  rotate_left
  ·simp only [Act.put, List.setIfInBounds_toArray, List.set_cons_zero, List.set_cons_succ, i64_w, i32_w]; rfl
  refine pure_ (i := 4) (N := some 7) (v := undef) (a' := ?_) (bitsL 14 31) rfl rfl (any_of HT_.out (by kernel_rfl)) (fun _ _ _ h => h) (Or.inr ⟨by rfl, rfl⟩) ?_ ?_; rotate_left
  ·simp only [Act.put, List.setIfInBounds_toArray, List.set_cons_zero, List.set_cons_succ, i64_w, i32_w]; rfl
  refine pure_ (i := 5) (N := some 8) (v := undef) (a' := ?_) (bitsL 14 63) rfl rfl (any_of HT_.out (by kernel_rfl)) (fun _ _ _ h => h) (Or.inr ⟨by rfl, rfl⟩) ?_ ?_; rotate_left
  ·simp only [Act.put, List.setIfInBounds_toArray, List.set_cons_zero, List.set_cons_succ, i64_w, i32_w]; rfl
  refine pure_ (i := 6) (N := some 9) (v := undef) (a' := ?_) (bitsL 14 127) rfl rfl (any_of HT_.out (by kernel_rfl)) (fun _ _ _ h => h) (Or.inr ⟨by rfl, rfl⟩) ?_ ?_; rotate_left
  ·simp only [Act.put, List.setIfInBounds_toArray, List.set_cons_zero, List.set_cons_succ, i64_w, i32_w]; rfl
  refine pure_ (i := 7) (N := some 10) (v := undef) (a' := ?_) (bitsL 14 255) rfl rfl (any_of HT_.out (by kernel_rfl)) (fun _ _ _ h => h) (Or.inr ⟨by rfl, rfl⟩) ?_ ?_; rotate_left
  ·simp only [Act.put, List.setIfInBounds_toArray, List.set_cons_zero, List.set_cons_succ, i64_w, i32_w]; rfl
  refine pure_ (i := 8) (N := some 11) (v := undef) (a' := ?_) (bitsL 14 511) rfl rfl (any_of HT_.out (by kernel_rfl)) (fun _ _ _ h => h) (Or.inr ⟨by rfl, rfl⟩) ?_ ?_; rotate_left
  ·simp only [Act.put, List.setIfInBounds_toArray, List.set_cons_zero, List.set_cons_succ, i64_w, i32_w]; rfl
  refine pure_ (i := 9) (N := some 12) (v := undef) (a' := ?_) (bitsL 14 1023) rfl rfl (any_of HT_.out (by kernel_rfl)) (fun _ _ _ h => h) (Or.inr ⟨by rfl, rfl⟩) ?_ ?_; rotate_left
  ·simp only [Act.put, List.setIfInBounds_toArray, List.set_cons_zero, List.set_cons_succ, i64_w, i32_w]; rfl
  refine pure_ (i := 10) (N := some 13) (v := undef) (a' := ?_) (bitsL 14 2047) rfl rfl (any_of HT_.out (by kernel_rfl)) (fun _ _ _ h => h) (Or.inr ⟨by rfl, rfl⟩) ?_ ?_; rotate_left
  ·simp only [Act.put, List.setIfInBounds_toArray, List.set_cons_zero, List.set_cons_succ, i64_w, i32_w]; rfl
  refine pure_ (i := 11) (N := some 14) (v := undef) (a' := ?_) (bitsL 14 4095) rfl rfl (any_of HT_.out (by kernel_rfl)) (fun _ _ _ h => h) (Or.inr ⟨by rfl, rfl⟩) ?_ ?_; rotate_left
  ·simp only [Act.put, List.setIfInBounds_toArray, List.set_cons_zero, List.set_cons_succ, i64_w, i32_w]; rfl
  refine pure_ (i := 12) (N := some 15) (v := ?_) (a' := ?_) (bitsL 14 8191) rfl rfl (any_of HT_.out (by kernel_rfl)) (fun _ _ _ h => h) (Or.inl ⟨by rfl, ?_⟩) ?_ ?_; rotate_left
  ·intro w'; go_simp; with_reducible rfl
  rotate_left
  ·simp only [Act.put, List.setIfInBounds_toArray, List.set_cons_zero, List.set_cons_succ, i64_w, i32_w]; rfl
  refine pure_ (i := 13) (N := some 2) (v := ?_) (a' := ?_) (bitsL 14 16383) rfl rfl (any_of HT_.out (by kernel_rfl)) (fun _ _ _ h => h) (Or.inl ⟨by rfl, ?_⟩) ?_ ?_; rotate_left
  ·intro w'; go_simp; with_reducible rfl
  rotate_left
  ·simp only [Act.put, List.setIfInBounds_toArray, List.set_cons_zero, List.set_cons_succ, i64_w, i32_w]; rfl
  refine done_ (done_of HT_.out (by kernel_rfl)) ?_
  try go_wp2
  go_ret
  exact ⟨ew, bwS⟩

end Go.Proofs.YtnnlhpmkfijppaaDoor.Fn
namespace Go.Proofs.YtnnlhpmkfijppaaDoor.Fn
open Go.RowKit Go.Proofs.YtnnlhpmkfijppaaDoorW.PrintWords Go.Proofs.YtnnlhpmkfijppaaDoorW.PrintLast Go.Proofs.YtnnlhpmkfijppaaDoorW.PrintMore
attribute [local go_sem] max2_int min2_int max_two min_two max_three min_three max_four min_four
set_option linter.unusedVariables false
set_option linter.unusedSimpArgs false

def roster_number.f (a0 : Int) : Option (Bool) := if a0 ≥ 0 then (some (decide (a0 ≤ 1099511627776))) else (some false)
set_option maxHeartbeats 8000000 in
set_option maxRecDepth 100000 in
theorem roster_number.calls (a0 : Int) (r : Bool) (w : World) (h : roster_number.f a0 = some r) :
  Calls Tryd.prog 25 #[.int .i64 a0] w fun e w' => e = .returned (.bool r) ∧ Drawn0 w w' := by
 have H : (if a0 ≥ 0 then (some (decide (a0 ≤ 1099511627776))) else (some false)) = some r := h; clear h
 by_cases c2 : a0 ≥ 0
 ·rw [if_pos c2] at H; have c2b0 : decide (0 ≤ a0) = true := decide_eq_true c2; clear c2; obtain rfl := Option.some.inj H
  go_enter Tryd.func25, Tryd.ntmps25
  go_wp2
  go_ret
  exact ⟨cl, d0⟩
 ·rw [if_neg c2] at H; have c2b0 : decide (0 ≤ a0) = false := decide_eq_false c2; clear c2; obtain rfl := Option.some.inj H
  go_enter Tryd.func25, Tryd.ntmps25
  go_wp2
  go_ret
  exact ⟨cl, d0⟩

end Go.Proofs.YtnnlhpmkfijppaaDoor.Fn
namespace Go.Proofs.YtnnlhpmkfijppaaDoor.Fn
open Go.RowKit Go.Proofs.YtnnlhpmkfijppaaDoorW.PrintWords Go.Proofs.YtnnlhpmkfijppaaDoorW.PrintLast Go.Proofs.YtnnlhpmkfijppaaDoorW.PrintMore
attribute [local go_sem] max2_int min2_int max_two min_two max_three min_three max_four min_four
set_option linter.unusedVariables false
set_option linter.unusedSimpArgs false

def roster_Member_Sound.f (k : Nat) (a0_0 : ByteArray) (a0_1 : ByteArray) (a0_2 : Int) (a0_3 : Bool) (a0_4 : Int) (a0_5 : Int) (a0_6 : Int) (a0_7 : Int) : Option (Bool) := (addr_Addr_Right.f k a0_0 a0_1).bind fun t180 => (if t180 = true then ((roster_Word.f a0_2).bind fun t181 => (if t181.toList = ([] : List UInt8) then (some false) else ((roster_number.f a0_4).bind fun t182 => (if t182 = true then ((roster_number.f a0_5).bind fun t183 => (if t183 = true then ((roster_number.f a0_6).bind fun t184 => (if t184 = true then ((roster_number.f a0_7).bind fun t185 => (some t185)) else (some false))) else (if a0_5 = (-1) then ((roster_number.f a0_6).bind fun t186 => (if t186 = true then ((roster_number.f a0_7).bind fun t187 => (some t187)) else (some false))) else (some false)))) else (some false))))) else (some false))
theorem roster_Member_Sound.mono : ∀ a0 a1 a2 a3 a4 a5 a6 a7 k, LeO (roster_Member_Sound.f k a0 a1 a2 a3 a4 a5 a6 a7) (roster_Member_Sound.f (k + 1) a0 a1 a2 a3 a4 a5 a6 a7) := by
 intro a0 a1 a2 a3 a4 a5 a6 a7 k; unfold roster_Member_Sound.f
 repeat' first
   | (with_reducible exact addr_Addr_Right.mono _ _ _)
   | (with_reducible exact LeO.refl _)
   | (with_reducible exact LeO.none _)
   | (with_reducible refine LeO.ite ?_ ?_)
   | (with_reducible refine LeO.bind ?_ (fun _ => ?_))
   | exact addr_Addr_Right.mono _ _ _
   | exact LeO.none _
   | refine LeO.ite ?_ ?_
   | refine LeO.bind ?_ (fun _ => ?_)
set_option maxHeartbeats 8000000 in
set_option maxRecDepth 100000 in
theorem roster_Member_Sound.calls (k : Nat) (a0_0 : ByteArray) (a0_1 : ByteArray) (a0_2 : Int) (a0_3 : Bool) (a0_4 : Int) (a0_5 : Int) (a0_6 : Int) (a0_7 : Int) (r : Bool) (w : World) (h : roster_Member_Sound.f k a0_0 a0_1 a0_2 a0_3 a0_4 a0_5 a0_6 a0_7 = some r) :
  Calls Tryd.prog 9 #[.agg #[.string a0_0, .string a0_1, .int .i64 a0_2, .bool a0_3, .int .i64 a0_4, .int .i64 a0_5, .int .i64 a0_6, .int .i64 a0_7]] w fun e w' => e = .returned (.bool r) ∧ Below w.heap.size w w' := by
 have hu29 := Tryd.underlying29; have hu27 := Tryd.underlying27; have HB := Aside0.mk (Below.refl w.heap.size w); have H : ((addr_Addr_Right.f k a0_0 a0_1).bind fun t180 => (if t180 = true then ((roster_Word.f a0_2).bind fun t181 => (if t181.toList = ([] : List UInt8) then (some false) else ((roster_number.f a0_4).bind fun t182 => (if t182 = true then ((roster_number.f a0_5).bind fun t183 => (if t183 = true then ((roster_number.f a0_6).bind fun t184 => (if t184 = true then ((roster_number.f a0_7).bind fun t185 => (some t185)) else (some false))) else (if a0_5 = (-1) then ((roster_number.f a0_6).bind fun t186 => (if t186 = true then ((roster_number.f a0_7).bind fun t187 => (some t187)) else (some false))) else (some false)))) else (some false))))) else (some false))) = some r := h; clear h; replace H := Option.bind_eq_some_iff.mp H; obtain ⟨t180, A20, H⟩ := H; replace H : (if t180 = true then ((roster_Word.f a0_2).bind fun t181 => (if t181.toList = ([] : List UInt8) then (some false) else ((roster_number.f a0_4).bind fun t182 => (if t182 = true then ((roster_number.f a0_5).bind fun t183 => (if t183 = true then ((roster_number.f a0_6).bind fun t184 => (if t184 = true then ((roster_number.f a0_7).bind fun t185 => (some t185)) else (some false))) else (if a0_5 = (-1) then ((roster_number.f a0_6).bind fun t186 => (if t186 = true then ((roster_number.f a0_7).bind fun t187 => (some t187)) else (some false))) else (some false)))) else (some false))))) else (some false)) = some r := H; have A2 := Aside0.mk A20; clear A20
 by_cases c3 : t180 = true
 ·subst c3; have H1 : ((roster_Word.f a0_2).bind fun t181 => (if t181.toList = ([] : List UInt8) then (some false) else ((roster_number.f a0_4).bind fun t182 => (if t182 = true then ((roster_number.f a0_5).bind fun t183 => (if t183 = true then ((roster_number.f a0_6).bind fun t184 => (if t184 = true then ((roster_number.f a0_7).bind fun t185 => (some t185)) else (some false))) else (if a0_5 = (-1) then ((roster_number.f a0_6).bind fun t186 => (if t186 = true then ((roster_number.f a0_7).bind fun t187 => (some t187)) else (some false))) else (some false)))) else (some false))))) = some r := by rw [if_pos rfl] at H; exact H
  clear H; have H := H1; clear H1; replace H := Option.bind_eq_some_iff.mp H; obtain ⟨t181, A40, H⟩ := H; replace H : (if t181.toList = ([] : List UInt8) then (some false) else ((roster_number.f a0_4).bind fun t182 => (if t182 = true then ((roster_number.f a0_5).bind fun t183 => (if t183 = true then ((roster_number.f a0_6).bind fun t184 => (if t184 = true then ((roster_number.f a0_7).bind fun t185 => (some t185)) else (some false))) else (if a0_5 = (-1) then ((roster_number.f a0_6).bind fun t186 => (if t186 = true then ((roster_number.f a0_7).bind fun t187 => (some t187)) else (some false))) else (some false)))) else (some false)))) = some r := H; have A4 := Aside0.mk A40; clear A40
  by_cases c5 : t181.toList = ([] : List UInt8)
  ·rw [if_pos c5] at H; have c5b0 : (t181.toList == ([] : List UInt8)) = true := beq_iff_eq.mpr c5; have c5b1 : (t181.toList != ([] : List UInt8)) = false := bne_eq_false_iff_eq.mpr c5; clear c5; obtain rfl := Option.some.inj H
   go_enter Tryd.func9, Tryd.ntmps9
   go_wp2_with (first | ((with_reducible refine gate_dst (N := 1) rfl ?_); refine box_event ?hg (N := 1) ?hd (cs := #[.string a0_0, .string a0_1, .int .i64 a0_2, .bool a0_3, .int .i64 a0_4, .int .i64 a0_5, .int .i64 a0_6, .int .i64 a0_7]) (t := 29) ?hr ?_; (case hd => rfl); (case hg => rfl); (case hr => first | (go_simp; done) | (go_simp; rfl)); intro gb179 hg w6 hbox hb; have n0_ := Aside0.mk (below_step bw hb); have n1_ := Aside0.mk (hbox); have n2_ := Aside0.mk ((by rw [hg]; exact (below_size bw) : w.heap.size ≤ gb179)); have n3_ := Aside0.mk ((by rw [hg]; exact (below_size bw) : w.heap.size ≤ gb179)); clear HB; have HB := n0_; have BK179 := n1_; have GW179 := n2_; have GE179 := n3_; clear n0_ n1_ n2_ n3_; clear hb hbox hg; have hcz7_0 : w6.cell? ⟨gb179, 0, none⟩ = some (.string a0_0) := (blk_cell BK179.out 0).trans rfl; have hcz7_1 : w6.cell? ⟨gb179, 1, none⟩ = some (.string a0_1) := (blk_cell BK179.out 1).trans rfl; have hcz7_2 : w6.cell? ⟨gb179, 2, none⟩ = some (.int .i64 a0_2) := (blk_cell BK179.out 2).trans rfl; have hcz7_3 : w6.cell? ⟨gb179, 3, none⟩ = some (.bool a0_3) := (blk_cell BK179.out 3).trans rfl; have hcz7_4 : w6.cell? ⟨gb179, 4, none⟩ = some (.int .i64 a0_4) := (blk_cell BK179.out 4).trans rfl; have hcz7_5 : w6.cell? ⟨gb179, 5, none⟩ = some (.int .i64 a0_5) := (blk_cell BK179.out 5).trans rfl; have hcz7_6 : w6.cell? ⟨gb179, 6, none⟩ = some (.int .i64 a0_6) := (blk_cell BK179.out 6).trans rfl; have hcz7_7 : w6.cell? ⟨gb179, 7, none⟩ = some (.int .i64 a0_7) := (blk_cell BK179.out 7).trans rfl; have hfz7_0 := blk_frozen BK179.out 0; have hfz7_1 := blk_frozen BK179.out 1; have hfz7_2 := blk_frozen BK179.out 2; have hfz7_3 := blk_frozen BK179.out 3; have hfz7_4 := blk_frozen BK179.out 4; have hfz7_5 := blk_frozen BK179.out 5; have hfz7_6 := blk_frozen BK179.out 6; have hfz7_7 := blk_frozen BK179.out 7) | ((with_reducible refine gate_callee (f := 24) rfl ?_); refine goesL_ (some 5) rfl rfl Tryd.func24 (by kernel_rfl) rfl #[.agg #[.string a0_0, .string a0_1]] rfl am ?_; (with_reducible refine (addr_Addr_Right.calls k a0_0 a0_1 true _ A2.out).mono ?_); rintro e w8 ⟨rfl, hb⟩; refine ⟨_, rfl, ?_⟩; have n0_ := Aside0.mk (blk_below (g := gb179) (o := .cells #[.string a0_0, .string a0_1, .int .i64 a0_2, .bool a0_3, .int .i64 a0_4, .int .i64 a0_5, .int .i64 a0_6, .int .i64 a0_7] 29 (0, 0)) bk hb); have n1_ := Aside0.mk (below_step bwS hb); clear BK179; clear HB; have BK179 := n0_; have HB := n1_; clear n0_ n1_; (try clear hb); (try clear hb2); (try clear hk); (try clear hi); have hcz9_0 : w8.cell? ⟨gb179, 0, none⟩ = some (.string a0_0) := (blk_cell BK179.out 0).trans rfl; have hcz9_1 : w8.cell? ⟨gb179, 1, none⟩ = some (.string a0_1) := (blk_cell BK179.out 1).trans rfl; have hcz9_2 : w8.cell? ⟨gb179, 2, none⟩ = some (.int .i64 a0_2) := (blk_cell BK179.out 2).trans rfl; have hcz9_3 : w8.cell? ⟨gb179, 3, none⟩ = some (.bool a0_3) := (blk_cell BK179.out 3).trans rfl; have hcz9_4 : w8.cell? ⟨gb179, 4, none⟩ = some (.int .i64 a0_4) := (blk_cell BK179.out 4).trans rfl; have hcz9_5 : w8.cell? ⟨gb179, 5, none⟩ = some (.int .i64 a0_5) := (blk_cell BK179.out 5).trans rfl; have hcz9_6 : w8.cell? ⟨gb179, 6, none⟩ = some (.int .i64 a0_6) := (blk_cell BK179.out 6).trans rfl; have hcz9_7 : w8.cell? ⟨gb179, 7, none⟩ = some (.int .i64 a0_7) := (blk_cell BK179.out 7).trans rfl; have hfz9_0 := blk_frozen BK179.out 0; have hfz9_1 := blk_frozen BK179.out 1; have hfz9_2 := blk_frozen BK179.out 2; have hfz9_3 := blk_frozen BK179.out 3; have hfz9_4 := blk_frozen BK179.out 4; have hfz9_5 := blk_frozen BK179.out 5; have hfz9_6 := blk_frozen BK179.out 6; have hfz9_7 := blk_frozen BK179.out 7) | (go_at_call 21; (with_reducible refine (roster_Word.calls a0_2 t181 _ A4.out).mono ?_); rintro e w' ⟨rfl, ⟨nd, rfl⟩⟩))
   go_ret
   exact ⟨ew, bwS⟩
  ·rw [if_neg c5] at H; have c5b0 : (t181.toList == ([] : List UInt8)) = false := beq_eq_false_iff_ne.mpr c5; have c5b1 : (t181.toList != ([] : List UInt8)) = true := bne_iff_ne.mpr c5; replace H := Option.bind_eq_some_iff.mp H; obtain ⟨t182, A100, H⟩ := H; replace H : (if t182 = true then ((roster_number.f a0_5).bind fun t183 => (if t183 = true then ((roster_number.f a0_6).bind fun t184 => (if t184 = true then ((roster_number.f a0_7).bind fun t185 => (some t185)) else (some false))) else (if a0_5 = (-1) then ((roster_number.f a0_6).bind fun t186 => (if t186 = true then ((roster_number.f a0_7).bind fun t187 => (some t187)) else (some false))) else (some false)))) else (some false)) = some r := H; have A10 := Aside0.mk A100; clear A100
   by_cases c11 : t182 = true
   ·subst c11; have H1 : ((roster_number.f a0_5).bind fun t183 => (if t183 = true then ((roster_number.f a0_6).bind fun t184 => (if t184 = true then ((roster_number.f a0_7).bind fun t185 => (some t185)) else (some false))) else (if a0_5 = (-1) then ((roster_number.f a0_6).bind fun t186 => (if t186 = true then ((roster_number.f a0_7).bind fun t187 => (some t187)) else (some false))) else (some false)))) = some r := by rw [if_pos rfl] at H; exact H
    clear H; have H := H1; clear H1; replace H := Option.bind_eq_some_iff.mp H; obtain ⟨t183, A120, H⟩ := H; replace H : (if t183 = true then ((roster_number.f a0_6).bind fun t184 => (if t184 = true then ((roster_number.f a0_7).bind fun t185 => (some t185)) else (some false))) else (if a0_5 = (-1) then ((roster_number.f a0_6).bind fun t186 => (if t186 = true then ((roster_number.f a0_7).bind fun t187 => (some t187)) else (some false))) else (some false))) = some r := H; have A12 := Aside0.mk A120; clear A120
    by_cases c13 : t183 = true
    ·subst c13; have H1 : ((roster_number.f a0_6).bind fun t184 => (if t184 = true then ((roster_number.f a0_7).bind fun t185 => (some t185)) else (some false))) = some r := by rw [if_pos rfl] at H; exact H
     clear H; have H := H1; clear H1; replace H := Option.bind_eq_some_iff.mp H; obtain ⟨t184, A140, H⟩ := H; replace H : (if t184 = true then ((roster_number.f a0_7).bind fun t185 => (some t185)) else (some false)) = some r := H; have A14 := Aside0.mk A140; clear A140
     by_cases c15 : t184 = true
     ·subst c15; have H1 : ((roster_number.f a0_7).bind fun t185 => (some t185)) = some r := by rw [if_pos rfl] at H; exact H
      clear H; have H := H1; clear H1; replace H := Option.bind_eq_some_iff.mp H; obtain ⟨t185, A160, H⟩ := H; replace H : (some t185) = some r := H; have A16 := Aside0.mk A160; clear A160; obtain rfl := Option.some.inj H
      go_enter Tryd.func9, Tryd.ntmps9
      go_wp2_with (first | ((with_reducible refine gate_dst (N := 1) rfl ?_); refine box_event ?hg (N := 1) ?hd (cs := #[.string a0_0, .string a0_1, .int .i64 a0_2, .bool a0_3, .int .i64 a0_4, .int .i64 a0_5, .int .i64 a0_6, .int .i64 a0_7]) (t := 29) ?hr ?_; (case hd => rfl); (case hg => rfl); (case hr => first | (go_simp; done) | (go_simp; rfl)); intro gb179 hg w17 hbox hb; have n0_ := Aside0.mk (below_step bw hb); have n1_ := Aside0.mk (hbox); have n2_ := Aside0.mk ((by rw [hg]; exact (below_size bw) : w.heap.size ≤ gb179)); have n3_ := Aside0.mk ((by rw [hg]; exact (below_size bw) : w.heap.size ≤ gb179)); clear HB; have HB := n0_; have BK179 := n1_; have GW179 := n2_; have GE179 := n3_; clear n0_ n1_ n2_ n3_; clear hb hbox hg; have hcz18_0 : w17.cell? ⟨gb179, 0, none⟩ = some (.string a0_0) := (blk_cell BK179.out 0).trans rfl; have hcz18_1 : w17.cell? ⟨gb179, 1, none⟩ = some (.string a0_1) := (blk_cell BK179.out 1).trans rfl; have hcz18_2 : w17.cell? ⟨gb179, 2, none⟩ = some (.int .i64 a0_2) := (blk_cell BK179.out 2).trans rfl; have hcz18_3 : w17.cell? ⟨gb179, 3, none⟩ = some (.bool a0_3) := (blk_cell BK179.out 3).trans rfl; have hcz18_4 : w17.cell? ⟨gb179, 4, none⟩ = some (.int .i64 a0_4) := (blk_cell BK179.out 4).trans rfl; have hcz18_5 : w17.cell? ⟨gb179, 5, none⟩ = some (.int .i64 a0_5) := (blk_cell BK179.out 5).trans rfl; have hcz18_6 : w17.cell? ⟨gb179, 6, none⟩ = some (.int .i64 a0_6) := (blk_cell BK179.out 6).trans rfl; have hcz18_7 : w17.cell? ⟨gb179, 7, none⟩ = some (.int .i64 a0_7) := (blk_cell BK179.out 7).trans rfl; have hfz18_0 := blk_frozen BK179.out 0; have hfz18_1 := blk_frozen BK179.out 1; have hfz18_2 := blk_frozen BK179.out 2; have hfz18_3 := blk_frozen BK179.out 3; have hfz18_4 := blk_frozen BK179.out 4; have hfz18_5 := blk_frozen BK179.out 5; have hfz18_6 := blk_frozen BK179.out 6; have hfz18_7 := blk_frozen BK179.out 7) | ((with_reducible refine gate_callee (f := 24) rfl ?_); refine goesL_ (some 5) rfl rfl Tryd.func24 (by kernel_rfl) rfl #[.agg #[.string a0_0, .string a0_1]] rfl am ?_; (with_reducible refine (addr_Addr_Right.calls k a0_0 a0_1 true _ A2.out).mono ?_); rintro e w19 ⟨rfl, hb⟩; refine ⟨_, rfl, ?_⟩; have n0_ := Aside0.mk (blk_below (g := gb179) (o := .cells #[.string a0_0, .string a0_1, .int .i64 a0_2, .bool a0_3, .int .i64 a0_4, .int .i64 a0_5, .int .i64 a0_6, .int .i64 a0_7] 29 (0, 0)) bk hb); have n1_ := Aside0.mk (below_step bwS hb); clear BK179; clear HB; have BK179 := n0_; have HB := n1_; clear n0_ n1_; (try clear hb); (try clear hb2); (try clear hk); (try clear hi); have hcz20_0 : w19.cell? ⟨gb179, 0, none⟩ = some (.string a0_0) := (blk_cell BK179.out 0).trans rfl; have hcz20_1 : w19.cell? ⟨gb179, 1, none⟩ = some (.string a0_1) := (blk_cell BK179.out 1).trans rfl; have hcz20_2 : w19.cell? ⟨gb179, 2, none⟩ = some (.int .i64 a0_2) := (blk_cell BK179.out 2).trans rfl; have hcz20_3 : w19.cell? ⟨gb179, 3, none⟩ = some (.bool a0_3) := (blk_cell BK179.out 3).trans rfl; have hcz20_4 : w19.cell? ⟨gb179, 4, none⟩ = some (.int .i64 a0_4) := (blk_cell BK179.out 4).trans rfl; have hcz20_5 : w19.cell? ⟨gb179, 5, none⟩ = some (.int .i64 a0_5) := (blk_cell BK179.out 5).trans rfl; have hcz20_6 : w19.cell? ⟨gb179, 6, none⟩ = some (.int .i64 a0_6) := (blk_cell BK179.out 6).trans rfl; have hcz20_7 : w19.cell? ⟨gb179, 7, none⟩ = some (.int .i64 a0_7) := (blk_cell BK179.out 7).trans rfl; have hfz20_0 := blk_frozen BK179.out 0; have hfz20_1 := blk_frozen BK179.out 1; have hfz20_2 := blk_frozen BK179.out 2; have hfz20_3 := blk_frozen BK179.out 3; have hfz20_4 := blk_frozen BK179.out 4; have hfz20_5 := blk_frozen BK179.out 5; have hfz20_6 := blk_frozen BK179.out 6; have hfz20_7 := blk_frozen BK179.out 7) | (go_at_call 21; (with_reducible refine (roster_Word.calls a0_2 t181 _ A4.out).mono ?_); rintro e w' ⟨rfl, ⟨nd, rfl⟩⟩) | (go_at_call 25; (with_reducible refine (roster_number.calls a0_4 true _ A10.out).mono ?_); rintro e w' ⟨rfl, ⟨nd, rfl⟩⟩) | (go_at_call 25; (with_reducible refine (roster_number.calls a0_5 true _ A12.out).mono ?_); rintro e w' ⟨rfl, ⟨nd, rfl⟩⟩) | (go_at_call 25; (with_reducible refine (roster_number.calls a0_6 true _ A14.out).mono ?_); rintro e w' ⟨rfl, ⟨nd, rfl⟩⟩) | (go_at_call 25; (with_reducible refine (roster_number.calls a0_7 t185 _ A16.out).mono ?_); rintro e w' ⟨rfl, ⟨nd, rfl⟩⟩))
      go_ret
      exact ⟨ew, bwS⟩
     ·replace c15 := Bool.eq_false_iff.mpr c15; subst c15; have H1 : (some false) = some r := by rw [if_neg (show ¬ (false = true) by decide)] at H; exact H
      clear H; have H := H1; clear H1; obtain rfl := Option.some.inj H
      go_enter Tryd.func9, Tryd.ntmps9
      go_wp2_with (first | ((with_reducible refine gate_dst (N := 1) rfl ?_); refine box_event ?hg (N := 1) ?hd (cs := #[.string a0_0, .string a0_1, .int .i64 a0_2, .bool a0_3, .int .i64 a0_4, .int .i64 a0_5, .int .i64 a0_6, .int .i64 a0_7]) (t := 29) ?hr ?_; (case hd => rfl); (case hg => rfl); (case hr => first | (go_simp; done) | (go_simp; rfl)); intro gb179 hg w21 hbox hb; have n0_ := Aside0.mk (below_step bw hb); have n1_ := Aside0.mk (hbox); have n2_ := Aside0.mk ((by rw [hg]; exact (below_size bw) : w.heap.size ≤ gb179)); have n3_ := Aside0.mk ((by rw [hg]; exact (below_size bw) : w.heap.size ≤ gb179)); clear HB; have HB := n0_; have BK179 := n1_; have GW179 := n2_; have GE179 := n3_; clear n0_ n1_ n2_ n3_; clear hb hbox hg; have hcz22_0 : w21.cell? ⟨gb179, 0, none⟩ = some (.string a0_0) := (blk_cell BK179.out 0).trans rfl; have hcz22_1 : w21.cell? ⟨gb179, 1, none⟩ = some (.string a0_1) := (blk_cell BK179.out 1).trans rfl; have hcz22_2 : w21.cell? ⟨gb179, 2, none⟩ = some (.int .i64 a0_2) := (blk_cell BK179.out 2).trans rfl; have hcz22_3 : w21.cell? ⟨gb179, 3, none⟩ = some (.bool a0_3) := (blk_cell BK179.out 3).trans rfl; have hcz22_4 : w21.cell? ⟨gb179, 4, none⟩ = some (.int .i64 a0_4) := (blk_cell BK179.out 4).trans rfl; have hcz22_5 : w21.cell? ⟨gb179, 5, none⟩ = some (.int .i64 a0_5) := (blk_cell BK179.out 5).trans rfl; have hcz22_6 : w21.cell? ⟨gb179, 6, none⟩ = some (.int .i64 a0_6) := (blk_cell BK179.out 6).trans rfl; have hcz22_7 : w21.cell? ⟨gb179, 7, none⟩ = some (.int .i64 a0_7) := (blk_cell BK179.out 7).trans rfl; have hfz22_0 := blk_frozen BK179.out 0; have hfz22_1 := blk_frozen BK179.out 1; have hfz22_2 := blk_frozen BK179.out 2; have hfz22_3 := blk_frozen BK179.out 3; have hfz22_4 := blk_frozen BK179.out 4; have hfz22_5 := blk_frozen BK179.out 5; have hfz22_6 := blk_frozen BK179.out 6; have hfz22_7 := blk_frozen BK179.out 7) | ((with_reducible refine gate_callee (f := 24) rfl ?_); refine goesL_ (some 5) rfl rfl Tryd.func24 (by kernel_rfl) rfl #[.agg #[.string a0_0, .string a0_1]] rfl am ?_; (with_reducible refine (addr_Addr_Right.calls k a0_0 a0_1 true _ A2.out).mono ?_); rintro e w23 ⟨rfl, hb⟩; refine ⟨_, rfl, ?_⟩; have n0_ := Aside0.mk (blk_below (g := gb179) (o := .cells #[.string a0_0, .string a0_1, .int .i64 a0_2, .bool a0_3, .int .i64 a0_4, .int .i64 a0_5, .int .i64 a0_6, .int .i64 a0_7] 29 (0, 0)) bk hb); have n1_ := Aside0.mk (below_step bwS hb); clear BK179; clear HB; have BK179 := n0_; have HB := n1_; clear n0_ n1_; (try clear hb); (try clear hb2); (try clear hk); (try clear hi); have hcz24_0 : w23.cell? ⟨gb179, 0, none⟩ = some (.string a0_0) := (blk_cell BK179.out 0).trans rfl; have hcz24_1 : w23.cell? ⟨gb179, 1, none⟩ = some (.string a0_1) := (blk_cell BK179.out 1).trans rfl; have hcz24_2 : w23.cell? ⟨gb179, 2, none⟩ = some (.int .i64 a0_2) := (blk_cell BK179.out 2).trans rfl; have hcz24_3 : w23.cell? ⟨gb179, 3, none⟩ = some (.bool a0_3) := (blk_cell BK179.out 3).trans rfl; have hcz24_4 : w23.cell? ⟨gb179, 4, none⟩ = some (.int .i64 a0_4) := (blk_cell BK179.out 4).trans rfl; have hcz24_5 : w23.cell? ⟨gb179, 5, none⟩ = some (.int .i64 a0_5) := (blk_cell BK179.out 5).trans rfl; have hcz24_6 : w23.cell? ⟨gb179, 6, none⟩ = some (.int .i64 a0_6) := (blk_cell BK179.out 6).trans rfl; have hcz24_7 : w23.cell? ⟨gb179, 7, none⟩ = some (.int .i64 a0_7) := (blk_cell BK179.out 7).trans rfl; have hfz24_0 := blk_frozen BK179.out 0; have hfz24_1 := blk_frozen BK179.out 1; have hfz24_2 := blk_frozen BK179.out 2; have hfz24_3 := blk_frozen BK179.out 3; have hfz24_4 := blk_frozen BK179.out 4; have hfz24_5 := blk_frozen BK179.out 5; have hfz24_6 := blk_frozen BK179.out 6; have hfz24_7 := blk_frozen BK179.out 7) | (go_at_call 21; (with_reducible refine (roster_Word.calls a0_2 t181 _ A4.out).mono ?_); rintro e w' ⟨rfl, ⟨nd, rfl⟩⟩) | (go_at_call 25; (with_reducible refine (roster_number.calls a0_4 true _ A10.out).mono ?_); rintro e w' ⟨rfl, ⟨nd, rfl⟩⟩) | (go_at_call 25; (with_reducible refine (roster_number.calls a0_5 true _ A12.out).mono ?_); rintro e w' ⟨rfl, ⟨nd, rfl⟩⟩) | (go_at_call 25; (with_reducible refine (roster_number.calls a0_6 false _ A14.out).mono ?_); rintro e w' ⟨rfl, ⟨nd, rfl⟩⟩))
      go_ret
      exact ⟨ew, bwS⟩
    ·replace c13 := Bool.eq_false_iff.mpr c13; subst c13; have H1 : (if a0_5 = (-1) then ((roster_number.f a0_6).bind fun t186 => (if t186 = true then ((roster_number.f a0_7).bind fun t187 => (some t187)) else (some false))) else (some false)) = some r := by rw [if_neg (show ¬ (false = true) by decide)] at H; exact H
     clear H; have H := H1; clear H1
     by_cases c25 : a0_5 = (-1)
     ·rw [if_pos c25] at H; have c25b0 : (a0_5 == (-1)) = true := beq_iff_eq.mpr c25; have c25b1 : (a0_5 != (-1)) = false := bne_eq_false_iff_eq.mpr c25; clear c25; replace H := Option.bind_eq_some_iff.mp H; obtain ⟨t186, A260, H⟩ := H; replace H : (if t186 = true then ((roster_number.f a0_7).bind fun t187 => (some t187)) else (some false)) = some r := H; have A26 := Aside0.mk A260; clear A260
      by_cases c27 : t186 = true
      ·subst c27; have H1 : ((roster_number.f a0_7).bind fun t187 => (some t187)) = some r := by rw [if_pos rfl] at H; exact H
       clear H; have H := H1; clear H1; replace H := Option.bind_eq_some_iff.mp H; obtain ⟨t187, A280, H⟩ := H; replace H : (some t187) = some r := H; have A28 := Aside0.mk A280; clear A280; obtain rfl := Option.some.inj H
       go_enter Tryd.func9, Tryd.ntmps9
       go_wp2_with (first | ((with_reducible refine gate_dst (N := 1) rfl ?_); refine box_event ?hg (N := 1) ?hd (cs := #[.string a0_0, .string a0_1, .int .i64 a0_2, .bool a0_3, .int .i64 a0_4, .int .i64 a0_5, .int .i64 a0_6, .int .i64 a0_7]) (t := 29) ?hr ?_; (case hd => rfl); (case hg => rfl); (case hr => first | (go_simp; done) | (go_simp; rfl)); intro gb179 hg w29 hbox hb; have n0_ := Aside0.mk (below_step bw hb); have n1_ := Aside0.mk (hbox); have n2_ := Aside0.mk ((by rw [hg]; exact (below_size bw) : w.heap.size ≤ gb179)); have n3_ := Aside0.mk ((by rw [hg]; exact (below_size bw) : w.heap.size ≤ gb179)); clear HB; have HB := n0_; have BK179 := n1_; have GW179 := n2_; have GE179 := n3_; clear n0_ n1_ n2_ n3_; clear hb hbox hg; have hcz30_0 : w29.cell? ⟨gb179, 0, none⟩ = some (.string a0_0) := (blk_cell BK179.out 0).trans rfl; have hcz30_1 : w29.cell? ⟨gb179, 1, none⟩ = some (.string a0_1) := (blk_cell BK179.out 1).trans rfl; have hcz30_2 : w29.cell? ⟨gb179, 2, none⟩ = some (.int .i64 a0_2) := (blk_cell BK179.out 2).trans rfl; have hcz30_3 : w29.cell? ⟨gb179, 3, none⟩ = some (.bool a0_3) := (blk_cell BK179.out 3).trans rfl; have hcz30_4 : w29.cell? ⟨gb179, 4, none⟩ = some (.int .i64 a0_4) := (blk_cell BK179.out 4).trans rfl; have hcz30_5 : w29.cell? ⟨gb179, 5, none⟩ = some (.int .i64 a0_5) := (blk_cell BK179.out 5).trans rfl; have hcz30_6 : w29.cell? ⟨gb179, 6, none⟩ = some (.int .i64 a0_6) := (blk_cell BK179.out 6).trans rfl; have hcz30_7 : w29.cell? ⟨gb179, 7, none⟩ = some (.int .i64 a0_7) := (blk_cell BK179.out 7).trans rfl; have hfz30_0 := blk_frozen BK179.out 0; have hfz30_1 := blk_frozen BK179.out 1; have hfz30_2 := blk_frozen BK179.out 2; have hfz30_3 := blk_frozen BK179.out 3; have hfz30_4 := blk_frozen BK179.out 4; have hfz30_5 := blk_frozen BK179.out 5; have hfz30_6 := blk_frozen BK179.out 6; have hfz30_7 := blk_frozen BK179.out 7) | ((with_reducible refine gate_callee (f := 24) rfl ?_); refine goesL_ (some 5) rfl rfl Tryd.func24 (by kernel_rfl) rfl #[.agg #[.string a0_0, .string a0_1]] rfl am ?_; (with_reducible refine (addr_Addr_Right.calls k a0_0 a0_1 true _ A2.out).mono ?_); rintro e w31 ⟨rfl, hb⟩; refine ⟨_, rfl, ?_⟩; have n0_ := Aside0.mk (blk_below (g := gb179) (o := .cells #[.string a0_0, .string a0_1, .int .i64 a0_2, .bool a0_3, .int .i64 a0_4, .int .i64 a0_5, .int .i64 a0_6, .int .i64 a0_7] 29 (0, 0)) bk hb); have n1_ := Aside0.mk (below_step bwS hb); clear BK179; clear HB; have BK179 := n0_; have HB := n1_; clear n0_ n1_; (try clear hb); (try clear hb2); (try clear hk); (try clear hi); have hcz32_0 : w31.cell? ⟨gb179, 0, none⟩ = some (.string a0_0) := (blk_cell BK179.out 0).trans rfl; have hcz32_1 : w31.cell? ⟨gb179, 1, none⟩ = some (.string a0_1) := (blk_cell BK179.out 1).trans rfl; have hcz32_2 : w31.cell? ⟨gb179, 2, none⟩ = some (.int .i64 a0_2) := (blk_cell BK179.out 2).trans rfl; have hcz32_3 : w31.cell? ⟨gb179, 3, none⟩ = some (.bool a0_3) := (blk_cell BK179.out 3).trans rfl; have hcz32_4 : w31.cell? ⟨gb179, 4, none⟩ = some (.int .i64 a0_4) := (blk_cell BK179.out 4).trans rfl; have hcz32_5 : w31.cell? ⟨gb179, 5, none⟩ = some (.int .i64 a0_5) := (blk_cell BK179.out 5).trans rfl; have hcz32_6 : w31.cell? ⟨gb179, 6, none⟩ = some (.int .i64 a0_6) := (blk_cell BK179.out 6).trans rfl; have hcz32_7 : w31.cell? ⟨gb179, 7, none⟩ = some (.int .i64 a0_7) := (blk_cell BK179.out 7).trans rfl; have hfz32_0 := blk_frozen BK179.out 0; have hfz32_1 := blk_frozen BK179.out 1; have hfz32_2 := blk_frozen BK179.out 2; have hfz32_3 := blk_frozen BK179.out 3; have hfz32_4 := blk_frozen BK179.out 4; have hfz32_5 := blk_frozen BK179.out 5; have hfz32_6 := blk_frozen BK179.out 6; have hfz32_7 := blk_frozen BK179.out 7) | (go_at_call 21; (with_reducible refine (roster_Word.calls a0_2 t181 _ A4.out).mono ?_); rintro e w' ⟨rfl, ⟨nd, rfl⟩⟩) | (go_at_call 25; (with_reducible refine (roster_number.calls a0_4 true _ A10.out).mono ?_); rintro e w' ⟨rfl, ⟨nd, rfl⟩⟩) | (go_at_call 25; (with_reducible refine (roster_number.calls a0_5 false _ A12.out).mono ?_); rintro e w' ⟨rfl, ⟨nd, rfl⟩⟩) | (go_at_call 25; (with_reducible refine (roster_number.calls a0_6 true _ A26.out).mono ?_); rintro e w' ⟨rfl, ⟨nd, rfl⟩⟩) | (go_at_call 25; (with_reducible refine (roster_number.calls a0_7 t187 _ A28.out).mono ?_); rintro e w' ⟨rfl, ⟨nd, rfl⟩⟩))
       go_ret
       exact ⟨ew, bwS⟩
      ·replace c27 := Bool.eq_false_iff.mpr c27; subst c27; have H1 : (some false) = some r := by rw [if_neg (show ¬ (false = true) by decide)] at H; exact H
       clear H; have H := H1; clear H1; obtain rfl := Option.some.inj H
       go_enter Tryd.func9, Tryd.ntmps9
       go_wp2_with (first | ((with_reducible refine gate_dst (N := 1) rfl ?_); refine box_event ?hg (N := 1) ?hd (cs := #[.string a0_0, .string a0_1, .int .i64 a0_2, .bool a0_3, .int .i64 a0_4, .int .i64 a0_5, .int .i64 a0_6, .int .i64 a0_7]) (t := 29) ?hr ?_; (case hd => rfl); (case hg => rfl); (case hr => first | (go_simp; done) | (go_simp; rfl)); intro gb179 hg w33 hbox hb; have n0_ := Aside0.mk (below_step bw hb); have n1_ := Aside0.mk (hbox); have n2_ := Aside0.mk ((by rw [hg]; exact (below_size bw) : w.heap.size ≤ gb179)); have n3_ := Aside0.mk ((by rw [hg]; exact (below_size bw) : w.heap.size ≤ gb179)); clear HB; have HB := n0_; have BK179 := n1_; have GW179 := n2_; have GE179 := n3_; clear n0_ n1_ n2_ n3_; clear hb hbox hg; have hcz34_0 : w33.cell? ⟨gb179, 0, none⟩ = some (.string a0_0) := (blk_cell BK179.out 0).trans rfl; have hcz34_1 : w33.cell? ⟨gb179, 1, none⟩ = some (.string a0_1) := (blk_cell BK179.out 1).trans rfl; have hcz34_2 : w33.cell? ⟨gb179, 2, none⟩ = some (.int .i64 a0_2) := (blk_cell BK179.out 2).trans rfl; have hcz34_3 : w33.cell? ⟨gb179, 3, none⟩ = some (.bool a0_3) := (blk_cell BK179.out 3).trans rfl; have hcz34_4 : w33.cell? ⟨gb179, 4, none⟩ = some (.int .i64 a0_4) := (blk_cell BK179.out 4).trans rfl; have hcz34_5 : w33.cell? ⟨gb179, 5, none⟩ = some (.int .i64 a0_5) := (blk_cell BK179.out 5).trans rfl; have hcz34_6 : w33.cell? ⟨gb179, 6, none⟩ = some (.int .i64 a0_6) := (blk_cell BK179.out 6).trans rfl; have hcz34_7 : w33.cell? ⟨gb179, 7, none⟩ = some (.int .i64 a0_7) := (blk_cell BK179.out 7).trans rfl; have hfz34_0 := blk_frozen BK179.out 0; have hfz34_1 := blk_frozen BK179.out 1; have hfz34_2 := blk_frozen BK179.out 2; have hfz34_3 := blk_frozen BK179.out 3; have hfz34_4 := blk_frozen BK179.out 4; have hfz34_5 := blk_frozen BK179.out 5; have hfz34_6 := blk_frozen BK179.out 6; have hfz34_7 := blk_frozen BK179.out 7) | ((with_reducible refine gate_callee (f := 24) rfl ?_); refine goesL_ (some 5) rfl rfl Tryd.func24 (by kernel_rfl) rfl #[.agg #[.string a0_0, .string a0_1]] rfl am ?_; (with_reducible refine (addr_Addr_Right.calls k a0_0 a0_1 true _ A2.out).mono ?_); rintro e w35 ⟨rfl, hb⟩; refine ⟨_, rfl, ?_⟩; have n0_ := Aside0.mk (blk_below (g := gb179) (o := .cells #[.string a0_0, .string a0_1, .int .i64 a0_2, .bool a0_3, .int .i64 a0_4, .int .i64 a0_5, .int .i64 a0_6, .int .i64 a0_7] 29 (0, 0)) bk hb); have n1_ := Aside0.mk (below_step bwS hb); clear BK179; clear HB; have BK179 := n0_; have HB := n1_; clear n0_ n1_; (try clear hb); (try clear hb2); (try clear hk); (try clear hi); have hcz36_0 : w35.cell? ⟨gb179, 0, none⟩ = some (.string a0_0) := (blk_cell BK179.out 0).trans rfl; have hcz36_1 : w35.cell? ⟨gb179, 1, none⟩ = some (.string a0_1) := (blk_cell BK179.out 1).trans rfl; have hcz36_2 : w35.cell? ⟨gb179, 2, none⟩ = some (.int .i64 a0_2) := (blk_cell BK179.out 2).trans rfl; have hcz36_3 : w35.cell? ⟨gb179, 3, none⟩ = some (.bool a0_3) := (blk_cell BK179.out 3).trans rfl; have hcz36_4 : w35.cell? ⟨gb179, 4, none⟩ = some (.int .i64 a0_4) := (blk_cell BK179.out 4).trans rfl; have hcz36_5 : w35.cell? ⟨gb179, 5, none⟩ = some (.int .i64 a0_5) := (blk_cell BK179.out 5).trans rfl; have hcz36_6 : w35.cell? ⟨gb179, 6, none⟩ = some (.int .i64 a0_6) := (blk_cell BK179.out 6).trans rfl; have hcz36_7 : w35.cell? ⟨gb179, 7, none⟩ = some (.int .i64 a0_7) := (blk_cell BK179.out 7).trans rfl; have hfz36_0 := blk_frozen BK179.out 0; have hfz36_1 := blk_frozen BK179.out 1; have hfz36_2 := blk_frozen BK179.out 2; have hfz36_3 := blk_frozen BK179.out 3; have hfz36_4 := blk_frozen BK179.out 4; have hfz36_5 := blk_frozen BK179.out 5; have hfz36_6 := blk_frozen BK179.out 6; have hfz36_7 := blk_frozen BK179.out 7) | (go_at_call 21; (with_reducible refine (roster_Word.calls a0_2 t181 _ A4.out).mono ?_); rintro e w' ⟨rfl, ⟨nd, rfl⟩⟩) | (go_at_call 25; (with_reducible refine (roster_number.calls a0_4 true _ A10.out).mono ?_); rintro e w' ⟨rfl, ⟨nd, rfl⟩⟩) | (go_at_call 25; (with_reducible refine (roster_number.calls a0_5 false _ A12.out).mono ?_); rintro e w' ⟨rfl, ⟨nd, rfl⟩⟩) | (go_at_call 25; (with_reducible refine (roster_number.calls a0_6 false _ A26.out).mono ?_); rintro e w' ⟨rfl, ⟨nd, rfl⟩⟩))
       go_ret
       exact ⟨ew, bwS⟩
     ·rw [if_neg c25] at H; have c25b0 : (a0_5 == (-1)) = false := beq_eq_false_iff_ne.mpr c25; have c25b1 : (a0_5 != (-1)) = true := bne_iff_ne.mpr c25; obtain rfl := Option.some.inj H
      go_enter Tryd.func9, Tryd.ntmps9
      go_wp2_with (first | ((with_reducible refine gate_dst (N := 1) rfl ?_); refine box_event ?hg (N := 1) ?hd (cs := #[.string a0_0, .string a0_1, .int .i64 a0_2, .bool a0_3, .int .i64 a0_4, .int .i64 a0_5, .int .i64 a0_6, .int .i64 a0_7]) (t := 29) ?hr ?_; (case hd => rfl); (case hg => rfl); (case hr => first | (go_simp; done) | (go_simp; rfl)); intro gb179 hg w37 hbox hb; have n0_ := Aside0.mk (below_step bw hb); have n1_ := Aside0.mk (hbox); have n2_ := Aside0.mk ((by rw [hg]; exact (below_size bw) : w.heap.size ≤ gb179)); have n3_ := Aside0.mk ((by rw [hg]; exact (below_size bw) : w.heap.size ≤ gb179)); clear HB; have HB := n0_; have BK179 := n1_; have GW179 := n2_; have GE179 := n3_; clear n0_ n1_ n2_ n3_; clear hb hbox hg; have hcz38_0 : w37.cell? ⟨gb179, 0, none⟩ = some (.string a0_0) := (blk_cell BK179.out 0).trans rfl; have hcz38_1 : w37.cell? ⟨gb179, 1, none⟩ = some (.string a0_1) := (blk_cell BK179.out 1).trans rfl; have hcz38_2 : w37.cell? ⟨gb179, 2, none⟩ = some (.int .i64 a0_2) := (blk_cell BK179.out 2).trans rfl; have hcz38_3 : w37.cell? ⟨gb179, 3, none⟩ = some (.bool a0_3) := (blk_cell BK179.out 3).trans rfl; have hcz38_4 : w37.cell? ⟨gb179, 4, none⟩ = some (.int .i64 a0_4) := (blk_cell BK179.out 4).trans rfl; have hcz38_5 : w37.cell? ⟨gb179, 5, none⟩ = some (.int .i64 a0_5) := (blk_cell BK179.out 5).trans rfl; have hcz38_6 : w37.cell? ⟨gb179, 6, none⟩ = some (.int .i64 a0_6) := (blk_cell BK179.out 6).trans rfl; have hcz38_7 : w37.cell? ⟨gb179, 7, none⟩ = some (.int .i64 a0_7) := (blk_cell BK179.out 7).trans rfl; have hfz38_0 := blk_frozen BK179.out 0; have hfz38_1 := blk_frozen BK179.out 1; have hfz38_2 := blk_frozen BK179.out 2; have hfz38_3 := blk_frozen BK179.out 3; have hfz38_4 := blk_frozen BK179.out 4; have hfz38_5 := blk_frozen BK179.out 5; have hfz38_6 := blk_frozen BK179.out 6; have hfz38_7 := blk_frozen BK179.out 7) | ((with_reducible refine gate_callee (f := 24) rfl ?_); refine goesL_ (some 5) rfl rfl Tryd.func24 (by kernel_rfl) rfl #[.agg #[.string a0_0, .string a0_1]] rfl am ?_; (with_reducible refine (addr_Addr_Right.calls k a0_0 a0_1 true _ A2.out).mono ?_); rintro e w39 ⟨rfl, hb⟩; refine ⟨_, rfl, ?_⟩; have n0_ := Aside0.mk (blk_below (g := gb179) (o := .cells #[.string a0_0, .string a0_1, .int .i64 a0_2, .bool a0_3, .int .i64 a0_4, .int .i64 a0_5, .int .i64 a0_6, .int .i64 a0_7] 29 (0, 0)) bk hb); have n1_ := Aside0.mk (below_step bwS hb); clear BK179; clear HB; have BK179 := n0_; have HB := n1_; clear n0_ n1_; (try clear hb); (try clear hb2); (try clear hk); (try clear hi); have hcz40_0 : w39.cell? ⟨gb179, 0, none⟩ = some (.string a0_0) := (blk_cell BK179.out 0).trans rfl; have hcz40_1 : w39.cell? ⟨gb179, 1, none⟩ = some (.string a0_1) := (blk_cell BK179.out 1).trans rfl; have hcz40_2 : w39.cell? ⟨gb179, 2, none⟩ = some (.int .i64 a0_2) := (blk_cell BK179.out 2).trans rfl; have hcz40_3 : w39.cell? ⟨gb179, 3, none⟩ = some (.bool a0_3) := (blk_cell BK179.out 3).trans rfl; have hcz40_4 : w39.cell? ⟨gb179, 4, none⟩ = some (.int .i64 a0_4) := (blk_cell BK179.out 4).trans rfl; have hcz40_5 : w39.cell? ⟨gb179, 5, none⟩ = some (.int .i64 a0_5) := (blk_cell BK179.out 5).trans rfl; have hcz40_6 : w39.cell? ⟨gb179, 6, none⟩ = some (.int .i64 a0_6) := (blk_cell BK179.out 6).trans rfl; have hcz40_7 : w39.cell? ⟨gb179, 7, none⟩ = some (.int .i64 a0_7) := (blk_cell BK179.out 7).trans rfl; have hfz40_0 := blk_frozen BK179.out 0; have hfz40_1 := blk_frozen BK179.out 1; have hfz40_2 := blk_frozen BK179.out 2; have hfz40_3 := blk_frozen BK179.out 3; have hfz40_4 := blk_frozen BK179.out 4; have hfz40_5 := blk_frozen BK179.out 5; have hfz40_6 := blk_frozen BK179.out 6; have hfz40_7 := blk_frozen BK179.out 7) | (go_at_call 21; (with_reducible refine (roster_Word.calls a0_2 t181 _ A4.out).mono ?_); rintro e w' ⟨rfl, ⟨nd, rfl⟩⟩) | (go_at_call 25; (with_reducible refine (roster_number.calls a0_4 true _ A10.out).mono ?_); rintro e w' ⟨rfl, ⟨nd, rfl⟩⟩) | (go_at_call 25; (with_reducible refine (roster_number.calls a0_5 false _ A12.out).mono ?_); rintro e w' ⟨rfl, ⟨nd, rfl⟩⟩))
      go_ret
      exact ⟨ew, bwS⟩
   ·replace c11 := Bool.eq_false_iff.mpr c11; subst c11; have H1 : (some false) = some r := by rw [if_neg (show ¬ (false = true) by decide)] at H; exact H
    clear H; have H := H1; clear H1; obtain rfl := Option.some.inj H
    go_enter Tryd.func9, Tryd.ntmps9
    go_wp2_with (first | ((with_reducible refine gate_dst (N := 1) rfl ?_); refine box_event ?hg (N := 1) ?hd (cs := #[.string a0_0, .string a0_1, .int .i64 a0_2, .bool a0_3, .int .i64 a0_4, .int .i64 a0_5, .int .i64 a0_6, .int .i64 a0_7]) (t := 29) ?hr ?_; (case hd => rfl); (case hg => rfl); (case hr => first | (go_simp; done) | (go_simp; rfl)); intro gb179 hg w41 hbox hb; have n0_ := Aside0.mk (below_step bw hb); have n1_ := Aside0.mk (hbox); have n2_ := Aside0.mk ((by rw [hg]; exact (below_size bw) : w.heap.size ≤ gb179)); have n3_ := Aside0.mk ((by rw [hg]; exact (below_size bw) : w.heap.size ≤ gb179)); clear HB; have HB := n0_; have BK179 := n1_; have GW179 := n2_; have GE179 := n3_; clear n0_ n1_ n2_ n3_; clear hb hbox hg; have hcz42_0 : w41.cell? ⟨gb179, 0, none⟩ = some (.string a0_0) := (blk_cell BK179.out 0).trans rfl; have hcz42_1 : w41.cell? ⟨gb179, 1, none⟩ = some (.string a0_1) := (blk_cell BK179.out 1).trans rfl; have hcz42_2 : w41.cell? ⟨gb179, 2, none⟩ = some (.int .i64 a0_2) := (blk_cell BK179.out 2).trans rfl; have hcz42_3 : w41.cell? ⟨gb179, 3, none⟩ = some (.bool a0_3) := (blk_cell BK179.out 3).trans rfl; have hcz42_4 : w41.cell? ⟨gb179, 4, none⟩ = some (.int .i64 a0_4) := (blk_cell BK179.out 4).trans rfl; have hcz42_5 : w41.cell? ⟨gb179, 5, none⟩ = some (.int .i64 a0_5) := (blk_cell BK179.out 5).trans rfl; have hcz42_6 : w41.cell? ⟨gb179, 6, none⟩ = some (.int .i64 a0_6) := (blk_cell BK179.out 6).trans rfl; have hcz42_7 : w41.cell? ⟨gb179, 7, none⟩ = some (.int .i64 a0_7) := (blk_cell BK179.out 7).trans rfl; have hfz42_0 := blk_frozen BK179.out 0; have hfz42_1 := blk_frozen BK179.out 1; have hfz42_2 := blk_frozen BK179.out 2; have hfz42_3 := blk_frozen BK179.out 3; have hfz42_4 := blk_frozen BK179.out 4; have hfz42_5 := blk_frozen BK179.out 5; have hfz42_6 := blk_frozen BK179.out 6; have hfz42_7 := blk_frozen BK179.out 7) | ((with_reducible refine gate_callee (f := 24) rfl ?_); refine goesL_ (some 5) rfl rfl Tryd.func24 (by kernel_rfl) rfl #[.agg #[.string a0_0, .string a0_1]] rfl am ?_; (with_reducible refine (addr_Addr_Right.calls k a0_0 a0_1 true _ A2.out).mono ?_); rintro e w43 ⟨rfl, hb⟩; refine ⟨_, rfl, ?_⟩; have n0_ := Aside0.mk (blk_below (g := gb179) (o := .cells #[.string a0_0, .string a0_1, .int .i64 a0_2, .bool a0_3, .int .i64 a0_4, .int .i64 a0_5, .int .i64 a0_6, .int .i64 a0_7] 29 (0, 0)) bk hb); have n1_ := Aside0.mk (below_step bwS hb); clear BK179; clear HB; have BK179 := n0_; have HB := n1_; clear n0_ n1_; (try clear hb); (try clear hb2); (try clear hk); (try clear hi); have hcz44_0 : w43.cell? ⟨gb179, 0, none⟩ = some (.string a0_0) := (blk_cell BK179.out 0).trans rfl; have hcz44_1 : w43.cell? ⟨gb179, 1, none⟩ = some (.string a0_1) := (blk_cell BK179.out 1).trans rfl; have hcz44_2 : w43.cell? ⟨gb179, 2, none⟩ = some (.int .i64 a0_2) := (blk_cell BK179.out 2).trans rfl; have hcz44_3 : w43.cell? ⟨gb179, 3, none⟩ = some (.bool a0_3) := (blk_cell BK179.out 3).trans rfl; have hcz44_4 : w43.cell? ⟨gb179, 4, none⟩ = some (.int .i64 a0_4) := (blk_cell BK179.out 4).trans rfl; have hcz44_5 : w43.cell? ⟨gb179, 5, none⟩ = some (.int .i64 a0_5) := (blk_cell BK179.out 5).trans rfl; have hcz44_6 : w43.cell? ⟨gb179, 6, none⟩ = some (.int .i64 a0_6) := (blk_cell BK179.out 6).trans rfl; have hcz44_7 : w43.cell? ⟨gb179, 7, none⟩ = some (.int .i64 a0_7) := (blk_cell BK179.out 7).trans rfl; have hfz44_0 := blk_frozen BK179.out 0; have hfz44_1 := blk_frozen BK179.out 1; have hfz44_2 := blk_frozen BK179.out 2; have hfz44_3 := blk_frozen BK179.out 3; have hfz44_4 := blk_frozen BK179.out 4; have hfz44_5 := blk_frozen BK179.out 5; have hfz44_6 := blk_frozen BK179.out 6; have hfz44_7 := blk_frozen BK179.out 7) | (go_at_call 21; (with_reducible refine (roster_Word.calls a0_2 t181 _ A4.out).mono ?_); rintro e w' ⟨rfl, ⟨nd, rfl⟩⟩) | (go_at_call 25; (with_reducible refine (roster_number.calls a0_4 false _ A10.out).mono ?_); rintro e w' ⟨rfl, ⟨nd, rfl⟩⟩))
    go_ret
    exact ⟨ew, bwS⟩
 ·replace c3 := Bool.eq_false_iff.mpr c3; subst c3; have H1 : (some false) = some r := by rw [if_neg (show ¬ (false = true) by decide)] at H; exact H
  clear H; have H := H1; clear H1; obtain rfl := Option.some.inj H
  go_enter Tryd.func9, Tryd.ntmps9
  go_wp2_with (first | ((with_reducible refine gate_dst (N := 1) rfl ?_); refine box_event ?hg (N := 1) ?hd (cs := #[.string a0_0, .string a0_1, .int .i64 a0_2, .bool a0_3, .int .i64 a0_4, .int .i64 a0_5, .int .i64 a0_6, .int .i64 a0_7]) (t := 29) ?hr ?_; (case hd => rfl); (case hg => rfl); (case hr => first | (go_simp; done) | (go_simp; rfl)); intro gb179 hg w45 hbox hb; have n0_ := Aside0.mk (below_step bw hb); have n1_ := Aside0.mk (hbox); have n2_ := Aside0.mk ((by rw [hg]; exact (below_size bw) : w.heap.size ≤ gb179)); have n3_ := Aside0.mk ((by rw [hg]; exact (below_size bw) : w.heap.size ≤ gb179)); clear HB; have HB := n0_; have BK179 := n1_; have GW179 := n2_; have GE179 := n3_; clear n0_ n1_ n2_ n3_; clear hb hbox hg; have hcz46_0 : w45.cell? ⟨gb179, 0, none⟩ = some (.string a0_0) := (blk_cell BK179.out 0).trans rfl; have hcz46_1 : w45.cell? ⟨gb179, 1, none⟩ = some (.string a0_1) := (blk_cell BK179.out 1).trans rfl; have hcz46_2 : w45.cell? ⟨gb179, 2, none⟩ = some (.int .i64 a0_2) := (blk_cell BK179.out 2).trans rfl; have hcz46_3 : w45.cell? ⟨gb179, 3, none⟩ = some (.bool a0_3) := (blk_cell BK179.out 3).trans rfl; have hcz46_4 : w45.cell? ⟨gb179, 4, none⟩ = some (.int .i64 a0_4) := (blk_cell BK179.out 4).trans rfl; have hcz46_5 : w45.cell? ⟨gb179, 5, none⟩ = some (.int .i64 a0_5) := (blk_cell BK179.out 5).trans rfl; have hcz46_6 : w45.cell? ⟨gb179, 6, none⟩ = some (.int .i64 a0_6) := (blk_cell BK179.out 6).trans rfl; have hcz46_7 : w45.cell? ⟨gb179, 7, none⟩ = some (.int .i64 a0_7) := (blk_cell BK179.out 7).trans rfl; have hfz46_0 := blk_frozen BK179.out 0; have hfz46_1 := blk_frozen BK179.out 1; have hfz46_2 := blk_frozen BK179.out 2; have hfz46_3 := blk_frozen BK179.out 3; have hfz46_4 := blk_frozen BK179.out 4; have hfz46_5 := blk_frozen BK179.out 5; have hfz46_6 := blk_frozen BK179.out 6; have hfz46_7 := blk_frozen BK179.out 7) | ((with_reducible refine gate_callee (f := 24) rfl ?_); refine goesL_ (some 5) rfl rfl Tryd.func24 (by kernel_rfl) rfl #[.agg #[.string a0_0, .string a0_1]] rfl am ?_; (with_reducible refine (addr_Addr_Right.calls k a0_0 a0_1 false _ A2.out).mono ?_); rintro e w47 ⟨rfl, hb⟩; refine ⟨_, rfl, ?_⟩; have n0_ := Aside0.mk (blk_below (g := gb179) (o := .cells #[.string a0_0, .string a0_1, .int .i64 a0_2, .bool a0_3, .int .i64 a0_4, .int .i64 a0_5, .int .i64 a0_6, .int .i64 a0_7] 29 (0, 0)) bk hb); have n1_ := Aside0.mk (below_step bwS hb); clear BK179; clear HB; have BK179 := n0_; have HB := n1_; clear n0_ n1_; (try clear hb); (try clear hb2); (try clear hk); (try clear hi)))
  go_ret
  exact ⟨ew, bwS⟩

end Go.Proofs.YtnnlhpmkfijppaaDoor.Fn
namespace Go.Proofs.YtnnlhpmkfijppaaDoor.Fn
open Go.RowKit Go.Proofs.YtnnlhpmkfijppaaDoorW.PrintWords Go.Proofs.YtnnlhpmkfijppaaDoorW.PrintLast Go.Proofs.YtnnlhpmkfijppaaDoorW.PrintMore
set_option linter.unusedVariables false
set_option linter.unusedSimpArgs false
/-! roster.Read behind its open region. -/
theorem tail_below {w W : World} {g n : Nat} {v0 v1 v2 v3 v4 v5 v6 v7 : Value} (h : Aside0 (Below n W w)) (hg : Aside0 (n ≤ g)) : Below n W ((((((((w.setCell ⟨g, 0, none⟩ v0).setCell ⟨g, 1, none⟩ v1).setCell ⟨g, 2, none⟩ v2).setCell ⟨g, 3, none⟩ v3).setCell ⟨g, 4, none⟩ v4).setCell ⟨g, 5, none⟩ v5).setCell ⟨g, 6, none⟩ v6).setCell ⟨g, 7, none⟩ v7) := member_below h.out hg.out
set_option maxHeartbeats 8000000 in
set_option maxRecDepth 100000 in
theorem roster_Read.tail (rc : Code) (hrc : ∃ c0 c1 c2 c3 c4, Tryd.f7.body = some (.seq c0 (.seq c1 (.seq c2 (.seq c3 (.seq c4 rc)))))) (k : Nat) (a0 x0 x1 : ByteArray) (c x2 : Int) (x3 : Bool) (x4 x5 x6 x7 : Int) (r1 r2 : ByteArray) (r3 : Int) (r4 : Bool) (r5 r6 r7 r8 r9 : Int) (w ws : World) (gm gr : Nat) {y1 y4 y6 y8 y9 y10 y11 y12 y13 y14 y15 y16 y17 y18 y19 y20 y21 y22 y23 y24 y25 y26 y27 y28 y29 y30 y31 y32 y33 y34 y35 y36 y37 y38 y39 y40 y41 y42 y43 y44 y45 y46 y47 y48 y49 y50 y51 y52 y53 y54 y55 y56 y57 y58 y59 y60 y61 y62 y63 : Value}
  (hG : GlobT w) (hB : Below w.heap.size w ws) (hm : ws.heap[gm]? = some (.cells #[.string x0, .string x1, .int .i64 x2, .bool x3, .int .i64 x4, .int .i64 x5, .int .i64 x6, .int .i64 x7] 29 (0, 0))) (hr : ws.heap[gr]? = some (.cells #[.string (⟨#[]⟩ : ByteArray), .string (⟨#[]⟩ : ByteArray), .int .i64 0, .bool false, .int .i64 0, .int .i64 0, .int .i64 0, .int .i64 0] 29 (0, 0))) (hge : w.heap.size ≤ gr)
  (h : (if c = 0 then ((roster_Member_Sound.f k x0 x1 x2 x3 x4 x5 x6 x7).bind fun t303 => (if t303 = true then ((roster_Member_Row.f k x0 x1 x2 x3 x4 x5 x6 x7).bind fun t304 => (if t304.toList = a0.toList then (some (x0, x1, x2, x3, x4, x5, x6, x7, 0)) else (some ((⟨#[]⟩ : ByteArray), (⟨#[]⟩ : ByteArray), 0, false, 0, 0, 0, 0, 3)))) else (some ((⟨#[]⟩ : ByteArray), (⟨#[]⟩ : ByteArray), 0, false, 0, 0, 0, 0, 3)))) else (some ((⟨#[]⟩ : ByteArray), (⟨#[]⟩ : ByteArray), 0, false, 0, 0, 0, 0, 3))) = some (r1, r2, r3, r4, r5, r6, r7, r8, r9)) :
  Code.wp Tryd.prog rc (bodyPost Tryd.prog Tryd.f7 fun e w' => e = .returned (.tuple #[.agg #[.string r1, .string r2, .int .i64 r3, .bool r4, .int .i64 r5, .int .i64 r6, .int .i64 r7, .int .i64 r8], .int .i64 r9]) ∧ Below w.heap.size w w')
   { tmps := #[.string a0, y1, .pointer (some ⟨gr, 0, none⟩), .int .i64 0, y4, .int .i64 c, y6, .pointer (some ⟨gm, 0, none⟩), y8, y9, y10, y11, y12, y13, y14, y15, y16, y17, y18, y19, y20, y21, y22, y23, y24, y25, y26, y27, y28, y29, y30, y31, y32, y33, y34, y35, y36, y37, y38, y39, y40, y41, y42, y43, y44, y45, y46, y47, y48, y49, y50, y51, y52, y53, y54, y55, y56, y57, y58, y59, y60, y61, y62, y63], defers := [] } ws := by
 have hu29 := Tryd.underlying29
 obtain ⟨c0, c1, c2, c3, c4, hrc⟩ := hrc
 unfold Tryd.f7 at hrc
 simp only [Option.some.injEq, Code.seq.injEq] at hrc
 obtain ⟨_, _, _, _, _, rfl⟩ := hrc
 have HB := Aside0.mk hB
 have HM := Aside0.mk hm
 have HR := Aside0.mk hr
 have GE := Aside0.mk hge
 have HG := Aside0.mk hG
 clear hB hm hr hge hG
 have hcm_0 : ws.cell? ⟨gm, 0, none⟩ = some (.string x0) := (blk_cell HM.out 0).trans rfl
 have hcm_1 : ws.cell? ⟨gm, 1, none⟩ = some (.string x1) := (blk_cell HM.out 1).trans rfl
 have hcm_2 : ws.cell? ⟨gm, 2, none⟩ = some (.int .i64 x2) := (blk_cell HM.out 2).trans rfl
 have hcm_3 : ws.cell? ⟨gm, 3, none⟩ = some (.bool x3) := (blk_cell HM.out 3).trans rfl
 have hcm_4 : ws.cell? ⟨gm, 4, none⟩ = some (.int .i64 x4) := (blk_cell HM.out 4).trans rfl
 have hcm_5 : ws.cell? ⟨gm, 5, none⟩ = some (.int .i64 x5) := (blk_cell HM.out 5).trans rfl
 have hcm_6 : ws.cell? ⟨gm, 6, none⟩ = some (.int .i64 x6) := (blk_cell HM.out 6).trans rfl
 have hcm_7 : ws.cell? ⟨gm, 7, none⟩ = some (.int .i64 x7) := (blk_cell HM.out 7).trans rfl
 have hfm_0 := blk_frozen HM.out 0
 have hfm_1 := blk_frozen HM.out 1
 have hfm_2 := blk_frozen HM.out 2
 have hfm_3 := blk_frozen HM.out 3
 have hfm_4 := blk_frozen HM.out 4
 have hfm_5 := blk_frozen HM.out 5
 have hfm_6 := blk_frozen HM.out 6
 have hfm_7 := blk_frozen HM.out 7
 have hcr_0 : ws.cell? ⟨gr, 0, none⟩ = some (.string (⟨#[]⟩ : ByteArray)) := (blk_cell HR.out 0).trans rfl
 have hcr_1 : ws.cell? ⟨gr, 1, none⟩ = some (.string (⟨#[]⟩ : ByteArray)) := (blk_cell HR.out 1).trans rfl
 have hcr_2 : ws.cell? ⟨gr, 2, none⟩ = some (.int .i64 0) := (blk_cell HR.out 2).trans rfl
 have hcr_3 : ws.cell? ⟨gr, 3, none⟩ = some (.bool false) := (blk_cell HR.out 3).trans rfl
 have hcr_4 : ws.cell? ⟨gr, 4, none⟩ = some (.int .i64 0) := (blk_cell HR.out 4).trans rfl
 have hcr_5 : ws.cell? ⟨gr, 5, none⟩ = some (.int .i64 0) := (blk_cell HR.out 5).trans rfl
 have hcr_6 : ws.cell? ⟨gr, 6, none⟩ = some (.int .i64 0) := (blk_cell HR.out 6).trans rfl
 have hcr_7 : ws.cell? ⟨gr, 7, none⟩ = some (.int .i64 0) := (blk_cell HR.out 7).trans rfl
 have hfr_0 := blk_frozen HR.out 0
 have hfr_1 := blk_frozen HR.out 1
 have hfr_2 := blk_frozen HR.out 2
 have hfr_3 := blk_frozen HR.out 3
 have hfr_4 := blk_frozen HR.out 4
 have hfr_5 := blk_frozen HR.out 5
 have hfr_6 := blk_frozen HR.out 6
 have hfr_7 := blk_frozen HR.out 7
 by_cases hc : c = 0
 case neg =>
  rw [if_neg hc] at h
  simp only [Option.some.injEq, Prod.mk.injEq] at h
  obtain ⟨rfl, rfl, rfl, rfl, rfl, rfl, rfl, rfl, rfl⟩ := h
  have c0 : (c == 0) = false := beq_eq_false_iff_ne.mpr hc
  have c1 : (c != 0) = true := bne_iff_ne.mpr hc
  clear hc hcm_0 hfm_0 hcm_1 hfm_1 hcm_2 hfm_2 hcm_3 hfm_3 hcm_4 hfm_4 hcm_5 hfm_5 hcm_6 hfm_6 hcm_7 hfm_7
  go_wp2
  refine bodyPost_ret (results_ct rfl _ _ gr 29 #[.string (⟨#[]⟩ : ByteArray), .string (⟨#[]⟩ : ByteArray), .int .i64 0, .bool false, .int .i64 0, .int .i64 0, .int .i64 0, .int .i64 0] (0, 0) _ rfl (member_blk (.string (⟨#[]⟩ : ByteArray)) (.string (⟨#[]⟩ : ByteArray)) (.int .i64 0) (.bool false) (.int .i64 0) (.int .i64 0) (.int .i64 0) (.int .i64 0) HR.out) Tryd.underlying29 rfl (by kernel_rfl)) rfl ?_
  exact ⟨rfl, tail_below HB GE⟩
 case pos =>
  rw [if_pos hc] at h
  have c0 : (c == 0) = true := beq_iff_eq.mpr hc
  have c1 : (c != 0) = false := bne_eq_false_iff_eq.mpr hc
  clear hc
  obtain ⟨q, hs, h⟩ := Option.bind_eq_some_iff.mp h
  replace hs := Aside0.mk hs
  cases q with
  | false =>
   rw [if_neg (by decide)] at h
   simp only [Option.some.injEq, Prod.mk.injEq] at h
   obtain ⟨rfl, rfl, rfl, rfl, rfl, rfl, rfl, rfl, rfl⟩ := h
   go_wp2_with (go_at_call 9; (with_reducible refine (roster_Member_Sound.calls k x0 x1 x2 x3 x4 x5 x6 x7 false _ hs.out).mono ?_); rintro e w44 ⟨rfl, hb⟩; have n0_ := Aside0.mk (below_step HB.out hb); have n1_ := Aside0.mk (blk_below HM.out hb); have n2_ := Aside0.mk (blk_below HR.out hb); clear HB HM HR hb; have HB := n0_; have HM := n1_; have HR := n2_; clear n0_ n1_ n2_; clear hcm_0 hfm_0 hcm_1 hfm_1 hcm_2 hfm_2 hcm_3 hfm_3 hcm_4 hfm_4 hcm_5 hfm_5 hcm_6 hfm_6 hcm_7 hfm_7; clear hcr_0 hfr_0 hcr_1 hfr_1 hcr_2 hfr_2 hcr_3 hfr_3 hcr_4 hfr_4 hcr_5 hfr_5 hcr_6 hfr_6 hcr_7 hfr_7; have hcr_0 : w44.cell? ⟨gr, 0, none⟩ = some (.string (⟨#[]⟩ : ByteArray)) := (blk_cell HR.out 0).trans rfl; have hcr_1 : w44.cell? ⟨gr, 1, none⟩ = some (.string (⟨#[]⟩ : ByteArray)) := (blk_cell HR.out 1).trans rfl; have hcr_2 : w44.cell? ⟨gr, 2, none⟩ = some (.int .i64 0) := (blk_cell HR.out 2).trans rfl; have hcr_3 : w44.cell? ⟨gr, 3, none⟩ = some (.bool false) := (blk_cell HR.out 3).trans rfl; have hcr_4 : w44.cell? ⟨gr, 4, none⟩ = some (.int .i64 0) := (blk_cell HR.out 4).trans rfl; have hcr_5 : w44.cell? ⟨gr, 5, none⟩ = some (.int .i64 0) := (blk_cell HR.out 5).trans rfl; have hcr_6 : w44.cell? ⟨gr, 6, none⟩ = some (.int .i64 0) := (blk_cell HR.out 6).trans rfl; have hcr_7 : w44.cell? ⟨gr, 7, none⟩ = some (.int .i64 0) := (blk_cell HR.out 7).trans rfl; have hfr_0 := blk_frozen HR.out 0; have hfr_1 := blk_frozen HR.out 1; have hfr_2 := blk_frozen HR.out 2; have hfr_3 := blk_frozen HR.out 3; have hfr_4 := blk_frozen HR.out 4; have hfr_5 := blk_frozen HR.out 5; have hfr_6 := blk_frozen HR.out 6; have hfr_7 := blk_frozen HR.out 7)
   refine bodyPost_ret (results_ct rfl _ _ gr 29 #[.string (⟨#[]⟩ : ByteArray), .string (⟨#[]⟩ : ByteArray), .int .i64 0, .bool false, .int .i64 0, .int .i64 0, .int .i64 0, .int .i64 0] (0, 0) _ rfl (member_blk (.string (⟨#[]⟩ : ByteArray)) (.string (⟨#[]⟩ : ByteArray)) (.int .i64 0) (.bool false) (.int .i64 0) (.int .i64 0) (.int .i64 0) (.int .i64 0) HR.out) Tryd.underlying29 rfl (by kernel_rfl)) rfl ?_
   exact ⟨rfl, tail_below HB GE⟩
  | true =>
   rw [if_pos rfl] at h
   obtain ⟨t, hrow, h⟩ := Option.bind_eq_some_iff.mp h
   replace hrow := Aside0.mk hrow
   by_cases ht : t.toList = a0.toList
   ·rw [if_pos ht] at h
    have d0 : (t.toList == a0.toList) = true := beq_iff_eq.mpr ht
    have d1 : (t.toList != a0.toList) = false := bne_eq_false_iff_eq.mpr ht
    clear ht
    simp only [Option.some.injEq, Prod.mk.injEq] at h
    obtain ⟨rfl, rfl, rfl, rfl, rfl, rfl, rfl, rfl, rfl⟩ := h
    go_wp2_with (first | (go_at_call 9; (with_reducible refine (roster_Member_Sound.calls k x0 x1 x2 x3 x4 x5 x6 x7 true _ hs.out).mono ?_); rintro e w44 ⟨rfl, hb⟩; have n0_ := Aside0.mk (below_step HB.out hb); have n1_ := Aside0.mk (blk_below HM.out hb); have n2_ := Aside0.mk (blk_below HR.out hb); clear HB HM HR hb; have HB := n0_; have HM := n1_; have HR := n2_; clear n0_ n1_ n2_; clear hcm_0 hfm_0 hcm_1 hfm_1 hcm_2 hfm_2 hcm_3 hfm_3 hcm_4 hfm_4 hcm_5 hfm_5 hcm_6 hfm_6 hcm_7 hfm_7; clear hcr_0 hfr_0 hcr_1 hfr_1 hcr_2 hfr_2 hcr_3 hfr_3 hcr_4 hfr_4 hcr_5 hfr_5 hcr_6 hfr_6 hcr_7 hfr_7; have hcm_0 : w44.cell? ⟨gm, 0, none⟩ = some (.string x0) := (blk_cell HM.out 0).trans rfl; have hcm_1 : w44.cell? ⟨gm, 1, none⟩ = some (.string x1) := (blk_cell HM.out 1).trans rfl; have hcm_2 : w44.cell? ⟨gm, 2, none⟩ = some (.int .i64 x2) := (blk_cell HM.out 2).trans rfl; have hcm_3 : w44.cell? ⟨gm, 3, none⟩ = some (.bool x3) := (blk_cell HM.out 3).trans rfl; have hcm_4 : w44.cell? ⟨gm, 4, none⟩ = some (.int .i64 x4) := (blk_cell HM.out 4).trans rfl; have hcm_5 : w44.cell? ⟨gm, 5, none⟩ = some (.int .i64 x5) := (blk_cell HM.out 5).trans rfl; have hcm_6 : w44.cell? ⟨gm, 6, none⟩ = some (.int .i64 x6) := (blk_cell HM.out 6).trans rfl; have hcm_7 : w44.cell? ⟨gm, 7, none⟩ = some (.int .i64 x7) := (blk_cell HM.out 7).trans rfl; have hfm_0 := blk_frozen HM.out 0; have hfm_1 := blk_frozen HM.out 1; have hfm_2 := blk_frozen HM.out 2; have hfm_3 := blk_frozen HM.out 3; have hfm_4 := blk_frozen HM.out 4; have hfm_5 := blk_frozen HM.out 5; have hfm_6 := blk_frozen HM.out 6; have hfm_7 := blk_frozen HM.out 7) | (go_at_call 8; (with_reducible refine (roster_Member_Row.calls (hG := GlobT.below HG.out HB.out) k x0 x1 x2 x3 x4 x5 x6 x7 t _ hrow.out).mono ?_); rintro e w46 ⟨rfl, hb⟩; have n0_ := Aside0.mk (below_step HB.out hb); have n1_ := Aside0.mk (blk_below HM.out hb); have n2_ := Aside0.mk (blk_below HR.out hb); clear HB HM HR hb; have HB := n0_; have HM := n1_; have HR := n2_; clear n0_ n1_ n2_; (try clear hcm_0 hfm_0 hcm_1 hfm_1 hcm_2 hfm_2 hcm_3 hfm_3 hcm_4 hfm_4 hcm_5 hfm_5 hcm_6 hfm_6 hcm_7 hfm_7); have hcr_0 : w46.cell? ⟨gr, 0, none⟩ = some (.string (⟨#[]⟩ : ByteArray)) := (blk_cell HR.out 0).trans rfl; have hcr_1 : w46.cell? ⟨gr, 1, none⟩ = some (.string (⟨#[]⟩ : ByteArray)) := (blk_cell HR.out 1).trans rfl; have hcr_2 : w46.cell? ⟨gr, 2, none⟩ = some (.int .i64 0) := (blk_cell HR.out 2).trans rfl; have hcr_3 : w46.cell? ⟨gr, 3, none⟩ = some (.bool false) := (blk_cell HR.out 3).trans rfl; have hcr_4 : w46.cell? ⟨gr, 4, none⟩ = some (.int .i64 0) := (blk_cell HR.out 4).trans rfl; have hcr_5 : w46.cell? ⟨gr, 5, none⟩ = some (.int .i64 0) := (blk_cell HR.out 5).trans rfl; have hcr_6 : w46.cell? ⟨gr, 6, none⟩ = some (.int .i64 0) := (blk_cell HR.out 6).trans rfl; have hcr_7 : w46.cell? ⟨gr, 7, none⟩ = some (.int .i64 0) := (blk_cell HR.out 7).trans rfl; have hfr_0 := blk_frozen HR.out 0; have hfr_1 := blk_frozen HR.out 1; have hfr_2 := blk_frozen HR.out 2; have hfr_3 := blk_frozen HR.out 3; have hfr_4 := blk_frozen HR.out 4; have hfr_5 := blk_frozen HR.out 5; have hfr_6 := blk_frozen HR.out 6; have hfr_7 := blk_frozen HR.out 7; have hcm_0 : w46.cell? ⟨gm, 0, none⟩ = some (.string x0) := (blk_cell HM.out 0).trans rfl; have hcm_1 : w46.cell? ⟨gm, 1, none⟩ = some (.string x1) := (blk_cell HM.out 1).trans rfl; have hcm_2 : w46.cell? ⟨gm, 2, none⟩ = some (.int .i64 x2) := (blk_cell HM.out 2).trans rfl; have hcm_3 : w46.cell? ⟨gm, 3, none⟩ = some (.bool x3) := (blk_cell HM.out 3).trans rfl; have hcm_4 : w46.cell? ⟨gm, 4, none⟩ = some (.int .i64 x4) := (blk_cell HM.out 4).trans rfl; have hcm_5 : w46.cell? ⟨gm, 5, none⟩ = some (.int .i64 x5) := (blk_cell HM.out 5).trans rfl; have hcm_6 : w46.cell? ⟨gm, 6, none⟩ = some (.int .i64 x6) := (blk_cell HM.out 6).trans rfl; have hcm_7 : w46.cell? ⟨gm, 7, none⟩ = some (.int .i64 x7) := (blk_cell HM.out 7).trans rfl; have hfm_0 := blk_frozen HM.out 0; have hfm_1 := blk_frozen HM.out 1; have hfm_2 := blk_frozen HM.out 2; have hfm_3 := blk_frozen HM.out 3; have hfm_4 := blk_frozen HM.out 4; have hfm_5 := blk_frozen HM.out 5; have hfm_6 := blk_frozen HM.out 6; have hfm_7 := blk_frozen HM.out 7))
    refine bodyPost_ret (results_ct rfl _ _ gr 29 #[.string x0, .string x1, .int .i64 x2, .bool x3, .int .i64 x4, .int .i64 x5, .int .i64 x6, .int .i64 x7] (0, 0) _ rfl (member_blk (.string x0) (.string x1) (.int .i64 x2) (.bool x3) (.int .i64 x4) (.int .i64 x5) (.int .i64 x6) (.int .i64 x7) HR.out) Tryd.underlying29 rfl (by kernel_rfl)) rfl ?_
    exact ⟨rfl, tail_below HB GE⟩
   ·rw [if_neg ht] at h
    have d0 : (t.toList == a0.toList) = false := beq_eq_false_iff_ne.mpr ht
    have d1 : (t.toList != a0.toList) = true := bne_iff_ne.mpr ht
    clear ht
    simp only [Option.some.injEq, Prod.mk.injEq] at h
    obtain ⟨rfl, rfl, rfl, rfl, rfl, rfl, rfl, rfl, rfl⟩ := h
    go_wp2_with (first | (go_at_call 9; (with_reducible refine (roster_Member_Sound.calls k x0 x1 x2 x3 x4 x5 x6 x7 true _ hs.out).mono ?_); rintro e w44 ⟨rfl, hb⟩; have n0_ := Aside0.mk (below_step HB.out hb); have n1_ := Aside0.mk (blk_below HM.out hb); have n2_ := Aside0.mk (blk_below HR.out hb); clear HB HM HR hb; have HB := n0_; have HM := n1_; have HR := n2_; clear n0_ n1_ n2_; clear hcm_0 hfm_0 hcm_1 hfm_1 hcm_2 hfm_2 hcm_3 hfm_3 hcm_4 hfm_4 hcm_5 hfm_5 hcm_6 hfm_6 hcm_7 hfm_7; clear hcr_0 hfr_0 hcr_1 hfr_1 hcr_2 hfr_2 hcr_3 hfr_3 hcr_4 hfr_4 hcr_5 hfr_5 hcr_6 hfr_6 hcr_7 hfr_7; have hcm_0 : w44.cell? ⟨gm, 0, none⟩ = some (.string x0) := (blk_cell HM.out 0).trans rfl; have hcm_1 : w44.cell? ⟨gm, 1, none⟩ = some (.string x1) := (blk_cell HM.out 1).trans rfl; have hcm_2 : w44.cell? ⟨gm, 2, none⟩ = some (.int .i64 x2) := (blk_cell HM.out 2).trans rfl; have hcm_3 : w44.cell? ⟨gm, 3, none⟩ = some (.bool x3) := (blk_cell HM.out 3).trans rfl; have hcm_4 : w44.cell? ⟨gm, 4, none⟩ = some (.int .i64 x4) := (blk_cell HM.out 4).trans rfl; have hcm_5 : w44.cell? ⟨gm, 5, none⟩ = some (.int .i64 x5) := (blk_cell HM.out 5).trans rfl; have hcm_6 : w44.cell? ⟨gm, 6, none⟩ = some (.int .i64 x6) := (blk_cell HM.out 6).trans rfl; have hcm_7 : w44.cell? ⟨gm, 7, none⟩ = some (.int .i64 x7) := (blk_cell HM.out 7).trans rfl; have hfm_0 := blk_frozen HM.out 0; have hfm_1 := blk_frozen HM.out 1; have hfm_2 := blk_frozen HM.out 2; have hfm_3 := blk_frozen HM.out 3; have hfm_4 := blk_frozen HM.out 4; have hfm_5 := blk_frozen HM.out 5; have hfm_6 := blk_frozen HM.out 6; have hfm_7 := blk_frozen HM.out 7) | (go_at_call 8; (with_reducible refine (roster_Member_Row.calls (hG := GlobT.below HG.out HB.out) k x0 x1 x2 x3 x4 x5 x6 x7 t _ hrow.out).mono ?_); rintro e w46 ⟨rfl, hb⟩; have n0_ := Aside0.mk (below_step HB.out hb); have n1_ := Aside0.mk (blk_below HM.out hb); have n2_ := Aside0.mk (blk_below HR.out hb); clear HB HM HR hb; have HB := n0_; have HM := n1_; have HR := n2_; clear n0_ n1_ n2_; (try clear hcm_0 hfm_0 hcm_1 hfm_1 hcm_2 hfm_2 hcm_3 hfm_3 hcm_4 hfm_4 hcm_5 hfm_5 hcm_6 hfm_6 hcm_7 hfm_7); have hcr_0 : w46.cell? ⟨gr, 0, none⟩ = some (.string (⟨#[]⟩ : ByteArray)) := (blk_cell HR.out 0).trans rfl; have hcr_1 : w46.cell? ⟨gr, 1, none⟩ = some (.string (⟨#[]⟩ : ByteArray)) := (blk_cell HR.out 1).trans rfl; have hcr_2 : w46.cell? ⟨gr, 2, none⟩ = some (.int .i64 0) := (blk_cell HR.out 2).trans rfl; have hcr_3 : w46.cell? ⟨gr, 3, none⟩ = some (.bool false) := (blk_cell HR.out 3).trans rfl; have hcr_4 : w46.cell? ⟨gr, 4, none⟩ = some (.int .i64 0) := (blk_cell HR.out 4).trans rfl; have hcr_5 : w46.cell? ⟨gr, 5, none⟩ = some (.int .i64 0) := (blk_cell HR.out 5).trans rfl; have hcr_6 : w46.cell? ⟨gr, 6, none⟩ = some (.int .i64 0) := (blk_cell HR.out 6).trans rfl; have hcr_7 : w46.cell? ⟨gr, 7, none⟩ = some (.int .i64 0) := (blk_cell HR.out 7).trans rfl; have hfr_0 := blk_frozen HR.out 0; have hfr_1 := blk_frozen HR.out 1; have hfr_2 := blk_frozen HR.out 2; have hfr_3 := blk_frozen HR.out 3; have hfr_4 := blk_frozen HR.out 4; have hfr_5 := blk_frozen HR.out 5; have hfr_6 := blk_frozen HR.out 6; have hfr_7 := blk_frozen HR.out 7; have hcm_0 : w46.cell? ⟨gm, 0, none⟩ = some (.string x0) := (blk_cell HM.out 0).trans rfl; have hcm_1 : w46.cell? ⟨gm, 1, none⟩ = some (.string x1) := (blk_cell HM.out 1).trans rfl; have hcm_2 : w46.cell? ⟨gm, 2, none⟩ = some (.int .i64 x2) := (blk_cell HM.out 2).trans rfl; have hcm_3 : w46.cell? ⟨gm, 3, none⟩ = some (.bool x3) := (blk_cell HM.out 3).trans rfl; have hcm_4 : w46.cell? ⟨gm, 4, none⟩ = some (.int .i64 x4) := (blk_cell HM.out 4).trans rfl; have hcm_5 : w46.cell? ⟨gm, 5, none⟩ = some (.int .i64 x5) := (blk_cell HM.out 5).trans rfl; have hcm_6 : w46.cell? ⟨gm, 6, none⟩ = some (.int .i64 x6) := (blk_cell HM.out 6).trans rfl; have hcm_7 : w46.cell? ⟨gm, 7, none⟩ = some (.int .i64 x7) := (blk_cell HM.out 7).trans rfl; have hfm_0 := blk_frozen HM.out 0; have hfm_1 := blk_frozen HM.out 1; have hfm_2 := blk_frozen HM.out 2; have hfm_3 := blk_frozen HM.out 3; have hfm_4 := blk_frozen HM.out 4; have hfm_5 := blk_frozen HM.out 5; have hfm_6 := blk_frozen HM.out 6; have hfm_7 := blk_frozen HM.out 7))
    refine bodyPost_ret (results_ct rfl _ _ gr 29 #[.string (⟨#[]⟩ : ByteArray), .string (⟨#[]⟩ : ByteArray), .int .i64 0, .bool false, .int .i64 0, .int .i64 0, .int .i64 0, .int .i64 0] (0, 0) _ rfl (member_blk (.string (⟨#[]⟩ : ByteArray)) (.string (⟨#[]⟩ : ByteArray)) (.int .i64 0) (.bool false) (.int .i64 0) (.int .i64 0) (.int .i64 0) (.int .i64 0) HR.out) Tryd.underlying29 rfl (by kernel_rfl)) rfl ?_
    exact ⟨rfl, tail_below HB GE⟩
end Go.Proofs.YtnnlhpmkfijppaaDoor.Fn
-- written by xprint.py of this session over the kit's printer; not trusted: Lean checks it
namespace Go.Proofs.YtnnlhpmkfijppaaDoor.Fn
open Go.RowKit Go.Proofs.YtnnlhpmkfijppaaDoorW.PrintWords Go.Proofs.YtnnlhpmkfijppaaDoorW.PrintLast Go.Proofs.YtnnlhpmkfijppaaDoorW.PrintMore
attribute [local go_sem] max2_int min2_int max_two min_two max_three min_three max_four min_four   -- for this text's walks alone
set_option linter.unusedVariables false
set_option linter.unusedSimpArgs false

theorem eqA71 (d : Nat) (w : World) (x0 y0 : Int) (x1 y1 : ByteArray) :
  (Op.equalIn (d + 2) 71 (.agg #[.int .i64 x0, .string x1]) (.agg #[.int .i64 y0, .string y1])).run Tryd.prog w = .ok (x0 == y0 && (x1.toList == y1.toList)) w := by
 refine eqA_of Tryd.underlying71 (by kernel_rfl) ?_
 refine eqf_cons (by rfl) (by go_simp; rfl) (by go_simp; rfl) (by go_simp) ?_
 exact eqf_last (by rfl) (by go_simp; rfl) (by go_simp; rfl) (by go_simp)
end Go.Proofs.YtnnlhpmkfijppaaDoor.Fn
namespace Go.Proofs.YtnnlhpmkfijppaaDoor.Fn
open Go.RowKit Go.Proofs.YtnnlhpmkfijppaaDoorW.PrintWords Go.Proofs.YtnnlhpmkfijppaaDoorW.PrintLast Go.Proofs.YtnnlhpmkfijppaaDoorW.PrintMore
attribute [local go_sem] max2_int min2_int max_two min_two max_three min_three max_four min_four
set_option linter.unusedVariables false
set_option linter.unusedSimpArgs false

attribute [local go_sem high] eqA71
def addr_is.f (l0 : List (S71)) (a1 : ByteArray) : Option (Bool) := if (l0.length : Int) > 0 then (if 0 < (l0.length : Int) then (some (((rd_T71 l0 0).f0) == 3 && ((((rd_T71 l0 0).f1).toList) == a1.toList))) else (none)) else (some false)
set_option maxHeartbeats 8000000 in
set_option maxRecDepth 100000 in
theorem addr_is.calls (A0 : Option Addr) (c0 : Nat) (l0 : List (S71)) (a1 : ByteArray) (r : Bool) (w : World) (hr0 : Kd.C k71 w A0 l0.length l0) (hc0 : l0.length ≤ c0) (h : addr_is.f l0 a1 = some r) :
  Calls Tryd.prog 40 #[.slice A0 l0.length c0, .string a1] w fun e w' => e = .returned (.bool r) ∧ Drawn0 w w' := by
 have hu71 := Tryd.underlying71; have HR0 := Aside0.mk hr0; have HC0 := Aside0.mk hc0; clear hr0 hc0; have H : (if (l0.length : Int) > 0 then (if 0 < (l0.length : Int) then (some (((rd_T71 l0 0).f0) == 3 && ((((rd_T71 l0 0).f1).toList) == a1.toList))) else (none)) else (some false)) = some r := h; clear h
 by_cases c3 : (l0.length : Int) > 0
 ·rw [if_pos c3] at H; have c3b0 : decide (0 < (l0.length : Int)) = true := decide_eq_true c3; have c3b1 : decide (0 < l0.length) = true := decide_eq_true (by omega); clear c3
  by_cases c4 : 0 < (l0.length : Int)
  ·rw [if_pos c4] at H; have c4b0 : decide (0 < (l0.length : Int)) = true := decide_eq_true c4; have c4b1 : decide (0 < l0.length) = true := decide_eq_true (by omega); clear c4; obtain rfl := Option.some.inj H; have p237 : 0 ≤ (0 : Int) := (by omega)
   have q237 : 0 < (l0.length : Int) := od; obtain ⟨ad237, e237, hx237_0, hx237_1⟩ := at_T71 HR0.out 0 p237 q237; cases e237; have qi237 : (0 < l0.length) = True := eq_true (by omega)
   (try rw [show ((0 : Int)).toNat = 0 from rfl] at hx237_0)
   (try rw [show 0 * 2 = 0 from rfl] at hx237_0)
   (try rw [Addr.add_zero'] at hx237_0)
   (try rw [show ((0 : Int)).toNat = 0 from rfl] at hx237_1)
   (try rw [show 0 * 2 = 0 from rfl] at hx237_1)
   (try rw [Addr.add_zero'] at hx237_1)
   replace p237 := eq_true p237; replace q237 := eq_true q237
   go_enter Tryd.func40, Tryd.ntmps40
   go_wp2
   go_ret
   exact ⟨cl, d0⟩
  ·rw [if_neg c4] at H; exact absurd H (by simp)
 ·rw [if_neg c3] at H; have c3b0 : decide (0 < (l0.length : Int)) = false := decide_eq_false c3; have c3b1 : decide (0 < l0.length) = false := decide_eq_false (by omega); clear c3; obtain rfl := Option.some.inj H
  go_enter Tryd.func40, Tryd.ntmps40
  go_wp2
  go_ret
  exact ⟨cl, d0⟩

end Go.Proofs.YtnnlhpmkfijppaaDoor.Fn
namespace Go.Proofs.YtnnlhpmkfijppaaDoor.Fn
open Go.RowKit Go.Proofs.YtnnlhpmkfijppaaDoorW.PrintWords Go.Proofs.YtnnlhpmkfijppaaDoorW.PrintLast Go.Proofs.YtnnlhpmkfijppaaDoorW.PrintMore
attribute [local go_sem] max2_int min2_int max_two min_two max_three min_three max_four min_four
set_option linter.unusedVariables false
set_option linter.unusedSimpArgs false

mutual
def addr_joined.l0 : Nat → List (S71) → Bool → ByteArray → Option (ByteArray × (List (S71)) × Bool)
 | 0, _, _, _ => none
 | k + 1, x0, x1, x7 => if (x0.length : Int) = 0 then (addr_joined.j1 k x0 x1 x7 true) else (if 0 < (x0.length : Int) then (if ((rd_T71 x0 0).f0) = 3 then (addr_joined.j1 k x0 x1 x7 true) else (if x1 = true then (addr_joined.j1 k x0 x1 x7 (((rd_T71 x0 0).f0) != 1)) else (addr_joined.j1 k x0 x1 x7 false))) else (none))
def addr_joined.j1 : Nat → List (S71) → Bool → ByteArray → Bool → Option (ByteArray × (List (S71)) × Bool)
 | 0, _, _, _, _ => none
 | k + 1, x0, x1, x7, x27 => if x27 = true then (some ((⟨#[]⟩ : ByteArray), ([] : List (S71)), false)) else (if 0 < (x0.length : Int) then (if x7.size + ((rd_T71 x0 0).f1).size ≤ 9223372036854775807 then (if 1 ≤ (x0.length : Int) then ((some (x0.drop 1 : List (S71))).bind fun y241 => ((addr_is.f y241 (⟨#[46]⟩ : ByteArray)).bind fun t246 => (if t246 = true then (if (x7 ++ ((rd_T71 x0 0).f1)).size + 1 ≤ 9223372036854775807 then (if 1 ≤ (y241.length : Int) then (addr_joined.l0 k (y241.drop 1) x1 ((x7 ++ ((rd_T71 x0 0).f1)) ++ (⟨#[46]⟩ : ByteArray))) else (none)) else (none)) else (some (x7 ++ ((rd_T71 x0 0).f1), y241, true))))) else (none)) else (none)) else (none))
end
def addr_joined.f (k : Nat) (l0 : List (S71)) (a1 : Bool) : Option (ByteArray × (List (S71)) × Bool) := addr_joined.l0 k l0 a1 (⟨#[]⟩ : ByteArray)
theorem addr_joined.mono_l : ∀ k, (∀ y0 y1 y2, LeO (addr_joined.l0 k y0 y1 y2) (addr_joined.l0 (k + 1) y0 y1 y2)) ∧ (∀ y0 y1 y2 y3, LeO (addr_joined.j1 k y0 y1 y2 y3) (addr_joined.j1 (k + 1) y0 y1 y2 y3))
 | 0 => ⟨fun _ _ _ r h => by simp [addr_joined.l0] at h, fun _ _ _ _ r h => by simp [addr_joined.j1] at h⟩
 | k + 1 => by
  obtain ⟨ih0, ih1⟩ := addr_joined.mono_l k; refine ⟨?_, ?_⟩
  ·intro y0 y1 y2; unfold addr_joined.l0
   repeat' first
   | (with_reducible exact ih0 _ _ _)
   | (with_reducible exact ih1 _ _ _ _)
   | (with_reducible exact LeO.refl _)
   | (with_reducible exact LeO.none _)
   | (with_reducible refine LeO.ite ?_ ?_)
   | (with_reducible refine LeO.bind ?_ (fun _ => ?_))
   | exact ih0 _ _ _
   | exact ih1 _ _ _ _
   | exact LeO.none _
   | refine LeO.ite ?_ ?_
   | refine LeO.bind ?_ (fun _ => ?_)
  ·intro y0 y1 y2 y3; unfold addr_joined.j1
   repeat' first
   | (with_reducible exact ih0 _ _ _)
   | (with_reducible exact ih1 _ _ _ _)
   | (with_reducible exact LeO.refl _)
   | (with_reducible exact LeO.none _)
   | (with_reducible refine LeO.ite ?_ ?_)
   | (with_reducible refine LeO.bind ?_ (fun _ => ?_))
   | exact ih0 _ _ _
   | exact ih1 _ _ _ _
   | exact LeO.none _
   | refine LeO.ite ?_ ?_
   | refine LeO.bind ?_ (fun _ => ?_)
theorem addr_joined.mono : ∀ a0 a1 k, LeO (addr_joined.f k a0 a1) (addr_joined.f (k + 1) a0 a1) := by
 intro a0 a1 k; obtain ⟨ih0, ih1⟩ := addr_joined.mono_l k; unfold addr_joined.f
 repeat' first
   | (with_reducible exact ih0 _ _ _)
   | (with_reducible exact ih1 _ _ _ _)
   | (with_reducible exact LeO.refl _)
   | (with_reducible exact LeO.none _)
   | (with_reducible refine LeO.ite ?_ ?_)
   | (with_reducible refine LeO.bind ?_ (fun _ => ?_))
   | exact ih0 _ _ _
   | exact ih1 _ _ _ _
   | exact LeO.none _
   | refine LeO.ite ?_ ?_
   | refine LeO.bind ?_ (fun _ => ?_)
set_option maxHeartbeats 8000000 in
set_option maxRecDepth 100000 in
theorem addr_joined.calls (k : Nat) (P0_ : Nat → Prop) (A0 : Option Addr) (c0 : Nat) (l0 : List (S71)) (a1 : Bool) (r1 : ByteArray) (r2 : List (S71)) (r3 : Bool) (w : World) (hs0 : Kd.V k71 71 w w.heap.size (fun k_ => P0_ k_) (.slice A0 l0.length c0) l0) (h : addr_joined.f k l0 a1 = some (r1, r2, r3)) :
  Calls Tryd.prog 39 #[.slice A0 l0.length c0, .bool a1] w fun e w' => ∃ v1_ : Value, e = .returned (.tuple #[.string r1, v1_, .bool r3]) ∧ Kd.V k71 71 w' w.heap.size (fun k_ => (P0_ k_ ∨ w.heap.size ≤ k_)) v1_ r2 ∧ Below w.heap.size w w' := by
 have HO0 := Aside0.mk (show Kd.V k71 71 w w.heap.size (fun k_ => (P0_ k_ ∨ w.heap.size ≤ k_)) (.slice A0 l0.length c0) l0 from Kd.V_mono hs0 (fun k_ hk => .inl hk)); have HB := Aside0.mk (Below.refl w.heap.size w); have H : (addr_joined.l0 k l0 a1 (⟨#[]⟩ : ByteArray)) = some (r1, r2, r3) := h; clear h; have H' := Aside0.mk H; clear H
 go_enter Tryd.func39, Tryd.ntmps39
 go_wp2
 go_loopg [0, 7] k (fun kq v0 v7 w' => ∃ (x0_1 : List (S71)) (x7_1 : ByteArray), v7 = .string x7_1 ∧ Aside0 (addr_joined.l0 kq x0_1 a1 x7_1 = some (r1, r2, r3)) ∧ Aside0 (kq ≤ k) ∧ Aside0 (Kd.V k71 71 w' w.heap.size (fun k_ => (P0_ k_ ∨ w.heap.size ≤ k_)) v0 x0_1) ∧ Aside0 (Below w.heap.size w w'))
 case atStart => exact ⟨(l0), ((⟨#[]⟩ : ByteArray)), cl, H', ⟨Nat.le_refl _⟩, ⟨by (with_reducible repeat (first | apply Kd.V_alloc | apply Kd.V_drewN | apply Kd.V_drew)); exact HO0.out⟩, ⟨bw⟩⟩
 case round =>
  clear H'
  try clear p2
  obtain ⟨x0_1, x7_1, rfl, HA, HK1, HO_0, HB⟩ := hrel; cases gk with
  | zero => exact absurd HA.out (by simp [addr_joined.l0])
  | succ k1 =>
   have H := HA.out; clear HA; simp only [addr_joined.l0] at H; have HC3 := Aside0.mk H; clear H
   go_upto_region 2 with (fail)
   go_cut [27] (fun v27 wc => ∃ (kq : Nat) (x27_2 : Bool), v27 = .bool x27_2 ∧ Aside0 (addr_joined.j1 kq x0_1 a1 x7_1 x27_2 = some (r1, r2, r3)) ∧ Aside0 (kq ≤ k1) ∧ Aside0 (Kd.V k71 71 wc w.heap.size (fun k_ => (P0_ k_ ∨ w.heap.size ≤ k_)) u0 x0_1) ∧ Aside0 (Below w.heap.size w wc))
   case first =>
    have H := HC3.out; clear HC3
    by_cases c4 : (x0_1.length : Int) = 0
    ·rw [if_pos c4] at H; have c4b0 : ((x0_1.length : Int) == 0) = true := beq_iff_eq.mpr c4; have c4b1 : ((x0_1.length : Int) != 0) = false := bne_eq_false_iff_eq.mpr c4; clear c4
     (first | rw [c4b0] | (simp only [i64_w, i32_w]; rw [c4b0]) | skip)
     have H' := Aside0.mk H; clear H; obtain ⟨Ao5, co5, eo5⟩ := Kd.V_slice HO_0.out; subst eo5
     go_wp2
     go_meet
     case rel => exact ⟨_, (true), cl, H', ⟨by have := HK1.out; first | omega | exact Nat.le_refl _⟩, ⟨by (with_reducible repeat (first | apply Kd.V_alloc | apply Kd.V_drewN | apply Kd.V_drew)); exact HO_0.out⟩, ⟨bw⟩⟩
    ·rw [if_neg c4] at H; have c4b0 : ((x0_1.length : Int) == 0) = false := beq_eq_false_iff_ne.mpr c4; have c4b1 : ((x0_1.length : Int) != 0) = true := bne_iff_ne.mpr c4; have c4b2 : ¬ (x0_1 = []) := fun h_ => c4 (by rw [h_]; rfl)
     (first | rw [c4b0] | (simp only [i64_w, i32_w]; rw [c4b0]) | skip)
     by_cases c6 : 0 < (x0_1.length : Int)
     ·rw [if_pos c6] at H; have c6b0 : decide (0 < (x0_1.length : Int)) = true := decide_eq_true c6; have c6b1 : decide (0 < x0_1.length) = true := decide_eq_true (by omega); clear c6
      by_cases c7 : ((rd_T71 x0_1 0).f0) = 3
      ·rw [if_pos c7] at H; have c7b0 : (((rd_T71 x0_1 0).f0) == 3) = true := beq_iff_eq.mpr c7; have c7b1 : (((rd_T71 x0_1 0).f0) != 3) = false := bne_eq_false_iff_eq.mpr c7; clear c7; have H' := Aside0.mk H; clear H; obtain ⟨Ao8, co8, eo8⟩ := Kd.V_slice HO_0.out; subst eo8; have p238 : 0 ≤ (0 : Int) := (by omega)
       have q238 : 0 < (x0_1.length : Int) := od; obtain ⟨ad238, e238, hx238_0, hx238_1⟩ := at_T71 (Kd.V_reads' HO_0.out).2.2 0 p238 q238; cases e238; have qi238 : (0 < x0_1.length) = True := eq_true (by omega)
       (try rw [show ((0 : Int)).toNat = 0 from rfl] at hx238_0)
       (try rw [show 0 * 2 = 0 from rfl] at hx238_0)
       (try rw [Addr.add_zero'] at hx238_0)
       (try rw [show ((0 : Int)).toNat = 0 from rfl] at hx238_1)
       (try rw [show 0 * 2 = 0 from rfl] at hx238_1)
       (try rw [Addr.add_zero'] at hx238_1)
       replace p238 := eq_true p238; replace q238 := eq_true q238
       go_wp2
       go_meet
       case rel => exact ⟨_, (true), cl, H', ⟨by have := HK1.out; first | omega | exact Nat.le_refl _⟩, ⟨by (with_reducible repeat (first | apply Kd.V_alloc | apply Kd.V_drewN | apply Kd.V_drew)); exact HO_0.out⟩, ⟨bw⟩⟩
      ·rw [if_neg c7] at H; have c7b0 : (((rd_T71 x0_1 0).f0) == 3) = false := beq_eq_false_iff_ne.mpr c7; have c7b1 : (((rd_T71 x0_1 0).f0) != 3) = true := bne_iff_ne.mpr c7
       by_cases c9 : a1 = true
       ·subst c9; have H1 : (addr_joined.j1 k1 x0_1 true x7_1 (((rd_T71 x0_1 0).f0) != 1)) = some (r1, r2, r3) := by rw [if_pos rfl] at H; exact H
        clear H; have H := H1; clear H1; have H' := Aside0.mk H; clear H; obtain ⟨Ao10, co10, eo10⟩ := Kd.V_slice HO_0.out; subst eo10; have p238 : 0 ≤ (0 : Int) := (by omega)
        have q238 : 0 < (x0_1.length : Int) := od; obtain ⟨ad238, e238, hx238_0, hx238_1⟩ := at_T71 (Kd.V_reads' HO_0.out).2.2 0 p238 q238; cases e238; have qi238 : (0 < x0_1.length) = True := eq_true (by omega)
        (try rw [show ((0 : Int)).toNat = 0 from rfl] at hx238_0)
        (try rw [show 0 * 2 = 0 from rfl] at hx238_0)
        (try rw [Addr.add_zero'] at hx238_0)
        (try rw [show ((0 : Int)).toNat = 0 from rfl] at hx238_1)
        (try rw [show 0 * 2 = 0 from rfl] at hx238_1)
        (try rw [Addr.add_zero'] at hx238_1)
        replace p238 := eq_true p238; replace q238 := eq_true q238; have p239 : 0 ≤ (0 : Int) := (by omega)
        have q239 : 0 < (x0_1.length : Int) := od; obtain ⟨ad239, e239, hx239_0, hx239_1⟩ := at_T71 (Kd.V_reads' HO_0.out).2.2 0 p239 q239; obtain rfl : ad238 = ad239 := (by injection e239)
        have qi239 : (0 < x0_1.length) = True := eq_true (by omega)
        (try rw [show ((0 : Int)).toNat = 0 from rfl] at hx239_0)
        (try rw [show 0 * 2 = 0 from rfl] at hx239_0)
        (try rw [Addr.add_zero'] at hx239_0)
        (try rw [show ((0 : Int)).toNat = 0 from rfl] at hx239_1)
        (try rw [show 0 * 2 = 0 from rfl] at hx239_1)
        (try rw [Addr.add_zero'] at hx239_1)
        replace p239 := eq_true p239; replace q239 := eq_true q239
        go_wp2
        go_meet
        case rel => exact ⟨_, ((((rd_T71 x0_1 0).f0) != 1)), cl, H', ⟨by have := HK1.out; first | omega | exact Nat.le_refl _⟩, ⟨by (with_reducible repeat (first | apply Kd.V_alloc | apply Kd.V_drewN | apply Kd.V_drew)); exact HO_0.out⟩, ⟨bw⟩⟩
       ·replace c9 := Bool.eq_false_iff.mpr c9; subst c9; have H1 : (addr_joined.j1 k1 x0_1 false x7_1 false) = some (r1, r2, r3) := by rw [if_neg (show ¬ (false = true) by decide)] at H; exact H
        clear H; have H := H1; clear H1; have H' := Aside0.mk H; clear H; obtain ⟨Ao11, co11, eo11⟩ := Kd.V_slice HO_0.out; subst eo11; have p238 : 0 ≤ (0 : Int) := (by omega)
        have q238 : 0 < (x0_1.length : Int) := od; obtain ⟨ad238, e238, hx238_0, hx238_1⟩ := at_T71 (Kd.V_reads' HO_0.out).2.2 0 p238 q238; cases e238; have qi238 : (0 < x0_1.length) = True := eq_true (by omega)
        (try rw [show ((0 : Int)).toNat = 0 from rfl] at hx238_0)
        (try rw [show 0 * 2 = 0 from rfl] at hx238_0)
        (try rw [Addr.add_zero'] at hx238_0)
        (try rw [show ((0 : Int)).toNat = 0 from rfl] at hx238_1)
        (try rw [show 0 * 2 = 0 from rfl] at hx238_1)
        (try rw [Addr.add_zero'] at hx238_1)
        replace p238 := eq_true p238; replace q238 := eq_true q238
        go_wp2
        go_meet
        case rel => exact ⟨_, (false), cl, H', ⟨by have := HK1.out; first | omega | exact Nat.le_refl _⟩, ⟨by (with_reducible repeat (first | apply Kd.V_alloc | apply Kd.V_drewN | apply Kd.V_drew)); exact HO_0.out⟩, ⟨bw⟩⟩
     ·rw [if_neg c6] at H; exact absurd H (by simp)
   case rest =>
    clear HC3
    try clear p2
    try clear q2
    try clear hx2
    try clear qi2
    try clear c3
    try clear c4
    try clear c4b0
    try clear c4b1
    try clear c4b2
    try clear c6
    try clear c6b0
    try clear c6b1
    try clear c7
    try clear c7b0
    try clear c7b1
    try clear c9
    try clear hx238_0
    try clear hx238_1
    try clear hx239_0
    try clear hx239_1
    try clear p2
    try clear p238
    try clear p239
    try clear q238
    try clear q239
    obtain ⟨kq, x27_2, rfl, HA, HJ2, HO_0, HB⟩ := hcut; cases kq with
    | zero => exact absurd HA.out (by simp [addr_joined.j1])
    | succ kj2 =>
     have H := HA.out; clear HA; simp only [addr_joined.j1] at H
     by_cases c12 : x27_2 = true
     ·subst c12; have H1 : (some ((⟨#[]⟩ : ByteArray), ([] : List (S71)), false)) = some (r1, r2, r3) := by rw [if_pos rfl] at H; exact H
      clear H; have H := H1; clear H1; simp only [Option.some.injEq, Prod.mk.injEq] at H; obtain ⟨rfl, rfl, rfl⟩ := H
      go_wp2
      go_ret3
      exact ⟨_, ew, (by first | exact Kd.V_nil _ _ _ _ _ | exact Kd.V_mono (Kd.R_V (by first | exact Kd.R_nil _ _ _ _ _ | exact Kd.N_nil _ _ _ _ _ | exact Kd.V_nil _ _ _ _ _ | exact Kd.Q_nil _ _ _ _ _ | exact Kd.S_nil _ _ _ _ _)) (fun k_ hk => by first | exact ⟨(.inr (hk.1)), hk.2⟩ | exact (.inr (hk)))), bw⟩
     ·replace c12 := Bool.eq_false_iff.mpr c12; subst c12; have H1 : (if 0 < (x0_1.length : Int) then (if x7_1.size + ((rd_T71 x0_1 0).f1).size ≤ 9223372036854775807 then (if 1 ≤ (x0_1.length : Int) then ((some (x0_1.drop 1 : List (S71))).bind fun y241 => ((addr_is.f y241 (⟨#[46]⟩ : ByteArray)).bind fun t246 => (if t246 = true then (if (x7_1 ++ ((rd_T71 x0_1 0).f1)).size + 1 ≤ 9223372036854775807 then (if 1 ≤ (y241.length : Int) then (addr_joined.l0 kj2 (y241.drop 1) a1 ((x7_1 ++ ((rd_T71 x0_1 0).f1)) ++ (⟨#[46]⟩ : ByteArray))) else (none)) else (none)) else (some (x7_1 ++ ((rd_T71 x0_1 0).f1), y241, true))))) else (none)) else (none)) else (none)) = some (r1, r2, r3) := by rw [if_neg (show ¬ (false = true) by decide)] at H; exact H
      clear H; have H := H1; clear H1
      by_cases c13 : 0 < (x0_1.length : Int)
      ·rw [if_pos c13] at H; have c13b0 : decide (0 < (x0_1.length : Int)) = true := decide_eq_true c13; have c13b1 : decide (0 < x0_1.length) = true := decide_eq_true (by omega); clear c13
       by_cases c14 : x7_1.size + ((rd_T71 x0_1 0).f1).size ≤ 9223372036854775807
       ·rw [if_pos c14] at H; have c14b0 := eq_true c14; have c14b1 : decide (x7_1.size + ((rd_T71 x0_1 0).f1).size ≤ 9223372036854775807) = true := decide_eq_true c14
        try have c14b2 : (9223372036854775807 < x7_1.size + ((rd_T71 x0_1 0).f1).size) = False := eq_false (Nat.not_lt.2 c14)
        by_cases c15 : 1 ≤ (x0_1.length : Int)
        ·rw [if_pos c15] at H; have c15b0 := eq_true c15; have c15b1 : decide (1 ≤ (x0_1.length : Int)) = true := decide_eq_true c15; clear c15; obtain ⟨y241, hy241⟩ : ∃ y_ : List (S71), y_ = (x0_1.drop 1) := ⟨_, rfl⟩
         replace H : ((addr_is.f y241 (⟨#[46]⟩ : ByteArray)).bind fun t246 => (if t246 = true then (if (x7_1 ++ ((rd_T71 x0_1 0).f1)).size + 1 ≤ 9223372036854775807 then (if 1 ≤ (y241.length : Int) then (addr_joined.l0 kj2 (y241.drop 1) a1 ((x7_1 ++ ((rd_T71 x0_1 0).f1)) ++ (⟨#[46]⟩ : ByteArray))) else (none)) else (none)) else (some (x7_1 ++ ((rd_T71 x0_1 0).f1), y241, true)))) = some (r1, r2, r3) := by first | (rw [hy241]; with_reducible exact H) | (have H2_ := (Option.bind_some _ _).symm.trans H; rw [hy241]; with_reducible exact H2_) | (have H2_ := (Option.bind_some _ _).symm.trans H; with_reducible exact H2_) | with_reducible exact H | (rw [hy241]; exact H) | exact H
         have Ny241 := Aside0.mk hy241; clear hy241; replace H := Option.bind_eq_some_iff.mp H; obtain ⟨t246, A160, H⟩ := H; replace H : (if t246 = true then (if (x7_1 ++ ((rd_T71 x0_1 0).f1)).size + 1 ≤ 9223372036854775807 then (if 1 ≤ (y241.length : Int) then (addr_joined.l0 kj2 (y241.drop 1) a1 ((x7_1 ++ ((rd_T71 x0_1 0).f1)) ++ (⟨#[46]⟩ : ByteArray))) else (none)) else (none)) else (some (x7_1 ++ ((rd_T71 x0_1 0).f1), y241, true))) = some (r1, r2, r3) := H; have A16 := Aside0.mk A160; clear A160
         by_cases c17 : t246 = true
         ·subst c17; have H1 : (if (x7_1 ++ ((rd_T71 x0_1 0).f1)).size + 1 ≤ 9223372036854775807 then (if 1 ≤ (y241.length : Int) then (addr_joined.l0 kj2 (y241.drop 1) a1 ((x7_1 ++ ((rd_T71 x0_1 0).f1)) ++ (⟨#[46]⟩ : ByteArray))) else (none)) else (none)) = some (r1, r2, r3) := by rw [if_pos rfl] at H; exact H
          clear H; have H := H1; clear H1
          by_cases c18 : (x7_1 ++ ((rd_T71 x0_1 0).f1)).size + 1 ≤ 9223372036854775807
          ·rw [if_pos c18] at H; have c18b0 := eq_true c18; have c18b1 : decide ((x7_1 ++ ((rd_T71 x0_1 0).f1)).size + 1 ≤ 9223372036854775807) = true := decide_eq_true c18
           try have c18b2 : (9223372036854775807 < (x7_1 ++ ((rd_T71 x0_1 0).f1)).size + 1) = False := eq_false (Nat.not_lt.2 c18)
           try (have c18b3 := c18; simp only [ByteArray.size_append, size_lit, ByteArray.size_extract, List.size_toArray, List.length_cons, List.length_nil, Nat.zero_add, Nat.reduceAdd] at c18b3; have c18b4 := eq_false (Nat.not_lt.2 c18b3))
           by_cases c19 : 1 ≤ (y241.length : Int)
           ·rw [if_pos c19] at H; have c19b0 := eq_true c19; have c19b1 : decide (1 ≤ (y241.length : Int)) = true := decide_eq_true c19; clear c19; obtain ⟨y247, hy247⟩ : ∃ y_ : List (S71), y_ = (y241.drop 1) := ⟨_, rfl⟩
            replace H : (addr_joined.l0 kj2 y247 a1 ((x7_1 ++ ((rd_T71 x0_1 0).f1)) ++ (⟨#[46]⟩ : ByteArray))) = some (r1, r2, r3) := by first | (rw [hy247]; with_reducible exact H) | (have H2_ := (Option.bind_some _ _).symm.trans H; rw [hy247]; with_reducible exact H2_) | (have H2_ := (Option.bind_some _ _).symm.trans H; with_reducible exact H2_) | with_reducible exact H | (rw [hy247]; exact H) | exact H
            have Ny247 := Aside0.mk hy247; clear hy247; have H' := Aside0.mk H; clear H; obtain ⟨Ao20, co20, eo20⟩ := Kd.V_slice HO_0.out; subst eo20; have p240 : 0 ≤ (0 : Int) := (by omega)
            have q240 : 0 < (x0_1.length : Int) := od; obtain ⟨ad240, e240, hx240_0, hx240_1⟩ := at_T71 (Kd.V_reads' HO_0.out).2.2 0 p240 q240; cases e240; have qi240 : (0 < x0_1.length) = True := eq_true (by omega)
            (try rw [show ((0 : Int)).toNat = 0 from rfl] at hx240_0)
            (try rw [show 0 * 2 = 0 from rfl] at hx240_0)
            (try rw [Addr.add_zero'] at hx240_0)
            (try rw [show ((0 : Int)).toNat = 0 from rfl] at hx240_1)
            (try rw [show 0 * 2 = 0 from rfl] at hx240_1)
            (try rw [Addr.add_zero'] at hx240_1)
            replace p240 := eq_true p240; replace q240 := eq_true q240; have q21 : (1 : Int) ≤ ((x0_1.length : Int) : Int) := od; obtain ⟨i021, hi021, _, hsz21, _⟩ := info_parts info71; have hroom21 : x0_1.length ≤ co20 := (Kd.V_reads' HO_0.out).2.1; have hC21 : Kd.F k71 _ _ (some ad240) x0_1.length x0_1 := (Kd.V_at (base := w.heap.size) HO_0.out).2.2; have hcut21 := cut_from (P := Tryd.prog) 53 71 .i64 Tryd.underlying53 hi021 2 hsz21 (some ad240) x0_1.length co20 1 (by omega) q21; have hr21 := Kd.F_cut (m := (1 : Int).toNat) (c := co20) hC21 (by omega) hroom21; obtain ⟨A21, hA21⟩ : ∃ A1, A1 = (if co20 = (1 : Int).toNat then (some ad240) else ((some ad240) : Option Addr).map (·.add ((1 : Int).toNat * 2))) := ⟨_, rfl⟩
            obtain ⟨c21, hc21⟩ : ∃ c1, c1 = co20 - (1 : Int).toNat := ⟨_, rfl⟩
            have hy21 : y241.length = x0_1.length - (1 : Int).toNat := (by rw [Ny241.out, List.length_drop] <;> omega)
            rw [show (x0_1).drop (1 : Int).toNat = y241 from Ny241.out.symm] at hr21; replace hr21 : Kd.F k71 _ _ A21 y241.length y241 := (by rw [hA21]; exact hr21)
            rw [← hy21, ← hA21, ← hc21] at hcut21; have HO245 := Aside0.mk (show Kd.V k71 71 _ w.heap.size _ (.slice A21 y241.length c21) y241 from Kd.V_mk (by rw [hy21, hc21]; exact Nat.sub_le_sub_right hroom21 _) hr21); have HC245 := Aside0.mk (show y241.length ≤ c21 from by rw [hy21, hc21]; exact Nat.sub_le_sub_right hroom21 _); clear hr21 hC21 hroom21 hi021 hsz21 hc21; have KY21 := Aside0.mk hy21; have KA21 := Aside0.mk hA21; clear hy21 hA21; replace q21 := eq_true q21
            go_wp2_with (first | ((with_reducible refine gate_callee (f := 40) rfl ?_); refine goesL_ (some 37) rfl rfl Tryd.func40 (by kernel_rfl) rfl #[.slice A21 y241.length c21, .string (⟨#[46]⟩ : ByteArray)] rfl am ?_; (with_reducible refine (addr_is.calls _ _ y241 (⟨#[46]⟩ : ByteArray) true _ ?side1 ?side2 A16.out).mono ?_); (case side1 => repeat (first | exact (Kd.V_reads' HO245.out).2.2 | (with_reducible refine Kd.C_alloc ?_ _) | (with_reducible refine Kd.C_drewN ?_ _) | (with_reducible refine Kd.C_drew ?_))); (case side2 => exact (Kd.V_reads' HO245.out).2.1); rintro e w' ⟨rfl, ⟨nd, rfl⟩⟩; refine ⟨_, rfl, ?_⟩; have q22 : (1 : Int) ≤ ((y241.length : Int) : Int) := od; obtain ⟨i022, hi022, _, hsz22, _⟩ := info_parts info71; have hroom22 : y241.length ≤ c21 := (Kd.V_reads' HO245.out).2.1; have hC22 : Kd.F k71 _ _ A21 y241.length y241 := (Kd.V_at (base := w.heap.size) HO245.out).2.2; have hcut22 := cut_from (P := Tryd.prog) 53 71 .i64 Tryd.underlying53 hi022 2 hsz22 A21 y241.length c21 1 (by omega) q22; have hr22 := Kd.F_cut (m := (1 : Int).toNat) (c := c21) hC22 (by omega) hroom22; obtain ⟨A22, hA22⟩ : ∃ A1, A1 = (if c21 = (1 : Int).toNat then A21 else (A21 : Option Addr).map (·.add ((1 : Int).toNat * 2))) := ⟨_, rfl⟩; obtain ⟨c22, hc22⟩ : ∃ c1, c1 = c21 - (1 : Int).toNat := ⟨_, rfl⟩; have hy22 : y247.length = y241.length - (1 : Int).toNat := (by rw [Ny247.out, List.length_drop] <;> omega); rw [show (y241).drop (1 : Int).toNat = y247 from Ny247.out.symm] at hr22; replace hr22 : Kd.F k71 _ _ A22 y247.length y247 := (by rw [hA22]; exact hr22); rw [← hy22, ← hA22, ← hc22] at hcut22; have HO251 := Aside0.mk (show Kd.V k71 71 _ w.heap.size _ (.slice A22 y247.length c22) y247 from Kd.V_mk (by rw [hy22, hc22]; exact Nat.sub_le_sub_right hroom22 _) hr22); have HC251 := Aside0.mk (show y247.length ≤ c22 from by rw [hy22, hc22]; exact Nat.sub_le_sub_right hroom22 _); clear hr22 hC22 hroom22 hi022 hsz22 hc22; have KY22 := Aside0.mk hy22; have KA22 := Aside0.mk hA22; clear hy22 hA22; replace q22 := eq_true q22))
            go_roundg kj2
            case measure => have := HK1.out; have := HJ2.out; omega
            case rel => exact ⟨(y247), ((x7_1 ++ ((rd_T71 x0_1 0).f1)) ++ (⟨#[46]⟩ : ByteArray)), cl, H', ⟨by have := HK1.out; have := HJ2.out; omega⟩, ⟨by (with_reducible repeat (first | apply Kd.V_alloc | apply Kd.V_drewN | apply Kd.V_drew)); exact HO251.out⟩, ⟨bw⟩⟩
           ·rw [if_neg c19] at H; exact absurd H (by simp)
          ·rw [if_neg c18] at H; exact absurd H (by simp)
         ·replace c17 := Bool.eq_false_iff.mpr c17; subst c17; have H1 : (some (x7_1 ++ ((rd_T71 x0_1 0).f1), y241, true)) = some (r1, r2, r3) := by rw [if_neg (show ¬ (false = true) by decide)] at H; exact H
          clear H; have H := H1; clear H1; simp only [Option.some.injEq, Prod.mk.injEq] at H; obtain ⟨rfl, rfl, rfl⟩ := H; obtain ⟨Ao23, co23, eo23⟩ := Kd.V_slice HO_0.out; subst eo23; have p240 : 0 ≤ (0 : Int) := (by omega)
          have q240 : 0 < (x0_1.length : Int) := od; obtain ⟨ad240, e240, hx240_0, hx240_1⟩ := at_T71 (Kd.V_reads' HO_0.out).2.2 0 p240 q240; cases e240; have qi240 : (0 < x0_1.length) = True := eq_true (by omega)
          (try rw [show ((0 : Int)).toNat = 0 from rfl] at hx240_0)
          (try rw [show 0 * 2 = 0 from rfl] at hx240_0)
          (try rw [Addr.add_zero'] at hx240_0)
          (try rw [show ((0 : Int)).toNat = 0 from rfl] at hx240_1)
          (try rw [show 0 * 2 = 0 from rfl] at hx240_1)
          (try rw [Addr.add_zero'] at hx240_1)
          replace p240 := eq_true p240; replace q240 := eq_true q240; have q24 : (1 : Int) ≤ ((x0_1.length : Int) : Int) := od; obtain ⟨i024, hi024, _, hsz24, _⟩ := info_parts info71; have hroom24 : x0_1.length ≤ co23 := (Kd.V_reads' HO_0.out).2.1; have hC24 : Kd.F k71 _ _ (some ad240) x0_1.length x0_1 := (Kd.V_at (base := w.heap.size) HO_0.out).2.2; have hcut24 := cut_from (P := Tryd.prog) 53 71 .i64 Tryd.underlying53 hi024 2 hsz24 (some ad240) x0_1.length co23 1 (by omega) q24; have hr24 := Kd.F_cut (m := (1 : Int).toNat) (c := co23) hC24 (by omega) hroom24; obtain ⟨A24, hA24⟩ : ∃ A1, A1 = (if co23 = (1 : Int).toNat then (some ad240) else ((some ad240) : Option Addr).map (·.add ((1 : Int).toNat * 2))) := ⟨_, rfl⟩
          obtain ⟨c24, hc24⟩ : ∃ c1, c1 = co23 - (1 : Int).toNat := ⟨_, rfl⟩
          have hy24 : y241.length = x0_1.length - (1 : Int).toNat := (by rw [Ny241.out, List.length_drop] <;> omega)
          rw [show (x0_1).drop (1 : Int).toNat = y241 from Ny241.out.symm] at hr24; replace hr24 : Kd.F k71 _ _ A24 y241.length y241 := (by rw [hA24]; exact hr24)
          rw [← hy24, ← hA24, ← hc24] at hcut24; have HO245 := Aside0.mk (show Kd.V k71 71 _ w.heap.size _ (.slice A24 y241.length c24) y241 from Kd.V_mk (by rw [hy24, hc24]; exact Nat.sub_le_sub_right hroom24 _) hr24); have HC245 := Aside0.mk (show y241.length ≤ c24 from by rw [hy24, hc24]; exact Nat.sub_le_sub_right hroom24 _); clear hr24 hC24 hroom24 hi024 hsz24 hc24; have KY24 := Aside0.mk hy24; have KA24 := Aside0.mk hA24; clear hy24 hA24; replace q24 := eq_true q24
          go_wp2_with (first | ((with_reducible refine gate_callee (f := 40) rfl ?_); refine goesL_ (some 37) rfl rfl Tryd.func40 (by kernel_rfl) rfl #[.slice A24 y241.length c24, .string (⟨#[46]⟩ : ByteArray)] rfl am ?_; (with_reducible refine (addr_is.calls _ _ y241 (⟨#[46]⟩ : ByteArray) false _ ?side1 ?side2 A16.out).mono ?_); (case side1 => repeat (first | exact (Kd.V_reads' HO245.out).2.2 | (with_reducible refine Kd.C_alloc ?_ _) | (with_reducible refine Kd.C_drewN ?_ _) | (with_reducible refine Kd.C_drew ?_))); (case side2 => exact (Kd.V_reads' HO245.out).2.1); rintro e w' ⟨rfl, ⟨nd, rfl⟩⟩; refine ⟨_, rfl, ?_⟩))
          go_ret3
          exact ⟨_, ew, by (with_reducible repeat (first | apply Kd.V_alloc | apply Kd.V_drewN | apply Kd.V_drew)); exact HO245.out, bw⟩
        ·rw [if_neg c15] at H; exact absurd H (by simp)
       ·rw [if_neg c14] at H; exact absurd H (by simp)
      ·rw [if_neg c13] at H; exact absurd H (by simp)

end Go.Proofs.YtnnlhpmkfijppaaDoor.Fn
namespace Go.Proofs.YtnnlhpmkfijppaaDoor.Fn
open Go.RowKit Go.Proofs.YtnnlhpmkfijppaaDoorW.PrintWords Go.Proofs.YtnnlhpmkfijppaaDoorW.PrintLast Go.Proofs.YtnnlhpmkfijppaaDoorW.PrintMore
attribute [local go_sem] max2_int min2_int max_two min_two max_three min_three max_four min_four
set_option linter.unusedVariables false
set_option linter.unusedSimpArgs false

mutual
def addr_Of.j0 : Nat → List (S71) → ByteArray → Bool → Option (ByteArray × ByteArray × Int)
 | 0, _, _, _ => none
 | k + 1, x0, x4, x21 => if x21 = true then (some ((⟨#[]⟩ : ByteArray), (⟨#[]⟩ : ByteArray), 130)) else (if 1 ≤ (x0.length : Int) then ((addr_joined.f k (x0.drop 1) true).bind fun bt264 => (if bt264.2.2 = true then (addr_Of.j1 k x4 bt264.1 (decide ((bt264.2.1.length : Int) > 0))) else (addr_Of.j1 k x4 bt264.1 true))) else (none))
def addr_Of.j1 : Nat → ByteArray → ByteArray → Bool → Option (ByteArray × ByteArray × Int)
 | 0, _, _, _ => none
 | k + 1, x4, x6, x36 => if x36 = true then (some ((⟨#[]⟩ : ByteArray), (⟨#[]⟩ : ByteArray), 130)) else ((glyph_Fold.f x6).bind fun t269 => ((addr_why.f k x4 t269).bind fun t271 => (if t271 = 0 then (some (x4, t269, 0)) else (some ((⟨#[]⟩ : ByteArray), (⟨#[]⟩ : ByteArray), t271)))))
end
def addr_Of.f (k : Nat) (l0 : List (S71)) : Option (ByteArray × ByteArray × Int) := (addr_joined.f k l0 false).bind fun bt253 => (if bt253.2.2 = true then ((addr_is.f bt253.2.1 (⟨#[64]⟩ : ByteArray)).bind fun t258 => (addr_Of.j0 k bt253.2.1 bt253.1 (!t258))) else (addr_Of.j0 k bt253.2.1 bt253.1 true))
theorem addr_Of.mono_l : ∀ k, (∀ y0 y1 y2, LeO (addr_Of.j0 k y0 y1 y2) (addr_Of.j0 (k + 1) y0 y1 y2)) ∧ (∀ y0 y1 y2, LeO (addr_Of.j1 k y0 y1 y2) (addr_Of.j1 (k + 1) y0 y1 y2))
 | 0 => ⟨fun _ _ _ r h => by simp [addr_Of.j0] at h, fun _ _ _ r h => by simp [addr_Of.j1] at h⟩
 | k + 1 => by
  obtain ⟨ih0, ih1⟩ := addr_Of.mono_l k; refine ⟨?_, ?_⟩
  ·intro y0 y1 y2; unfold addr_Of.j0
   repeat' first
   | (with_reducible exact ih0 _ _ _)
   | (with_reducible exact ih1 _ _ _)
   | (with_reducible exact addr_joined.mono _ _ _)
   | (with_reducible exact addr_why.mono _ _ _)
   | (with_reducible exact LeO.refl _)
   | (with_reducible exact LeO.none _)
   | (with_reducible refine LeO.ite ?_ ?_)
   | (with_reducible refine LeO.bind ?_ (fun _ => ?_))
   | exact ih0 _ _ _
   | exact ih1 _ _ _
   | exact addr_joined.mono _ _ _
   | exact addr_why.mono _ _ _
   | exact LeO.none _
   | refine LeO.ite ?_ ?_
   | refine LeO.bind ?_ (fun _ => ?_)
  ·intro y0 y1 y2; unfold addr_Of.j1
   repeat' first
   | (with_reducible exact ih0 _ _ _)
   | (with_reducible exact ih1 _ _ _)
   | (with_reducible exact addr_joined.mono _ _ _)
   | (with_reducible exact addr_why.mono _ _ _)
   | (with_reducible exact LeO.refl _)
   | (with_reducible exact LeO.none _)
   | (with_reducible refine LeO.ite ?_ ?_)
   | (with_reducible refine LeO.bind ?_ (fun _ => ?_))
   | exact ih0 _ _ _
   | exact ih1 _ _ _
   | exact addr_joined.mono _ _ _
   | exact addr_why.mono _ _ _
   | exact LeO.none _
   | refine LeO.ite ?_ ?_
   | refine LeO.bind ?_ (fun _ => ?_)
theorem addr_Of.mono : ∀ a0 k, LeO (addr_Of.f k a0) (addr_Of.f (k + 1) a0) := by
 intro a0 k; obtain ⟨ih0, ih1⟩ := addr_Of.mono_l k; unfold addr_Of.f
 repeat' first
   | (with_reducible exact ih0 _ _ _)
   | (with_reducible exact ih1 _ _ _)
   | (with_reducible exact addr_joined.mono _ _ _)
   | (with_reducible exact addr_why.mono _ _ _)
   | (with_reducible exact LeO.refl _)
   | (with_reducible exact LeO.none _)
   | (with_reducible refine LeO.ite ?_ ?_)
   | (with_reducible refine LeO.bind ?_ (fun _ => ?_))
   | exact ih0 _ _ _
   | exact ih1 _ _ _
   | exact addr_joined.mono _ _ _
   | exact addr_why.mono _ _ _
   | exact LeO.none _
   | refine LeO.ite ?_ ?_
   | refine LeO.bind ?_ (fun _ => ?_)
set_option maxHeartbeats 8000000 in
set_option maxRecDepth 100000 in
theorem addr_Of.calls (k : Nat) (A0 : Option Addr) (c0 : Nat) (l0 : List (S71)) (r1 : ByteArray) (r2 : ByteArray) (r3 : Int) (w : World) (hr0 : Kd.C k71 w A0 l0.length l0) (hc0 : l0.length ≤ c0) (h : addr_Of.f k l0 = some (r1, r2, r3)) :
  Calls Tryd.prog 28 #[.slice A0 l0.length c0] w fun e w' => e = .returned (.tuple #[.agg #[.string r1, .string r2], .int .i64 r3]) ∧ Below w.heap.size w w' := by
 have hu27 := Tryd.underlying27; have HR0 := Aside0.mk hr0; have HC0 := Aside0.mk hc0; clear hr0 hc0; have HB := Aside0.mk (Below.refl w.heap.size w); have H : ((addr_joined.f k l0 false).bind fun bt253 => (if bt253.2.2 = true then ((addr_is.f bt253.2.1 (⟨#[64]⟩ : ByteArray)).bind fun t258 => (addr_Of.j0 k bt253.2.1 bt253.1 (!t258))) else (addr_Of.j0 k bt253.2.1 bt253.1 true))) = some (r1, r2, r3) := h; clear h; replace H := Option.bind_eq_some_iff.mp H; obtain ⟨⟨t253, t254, t257⟩, A20, H⟩ := H; replace H : (if t257 = true then ((addr_is.f t254 (⟨#[64]⟩ : ByteArray)).bind fun t258 => (addr_Of.j0 k t254 t253 (!t258))) else (addr_Of.j0 k t254 t253 true)) = some (r1, r2, r3) := H; have A2 := Aside0.mk A20; clear A20; have HC3 := Aside0.mk H; clear H
 go_enter Tryd.func28, Tryd.ntmps28
 go_upto_region 2 with (first | ((with_reducible refine gate_dst (N := 2) rfl ?_); (try (refine gate_guard (by rfl) ?_; dsimp only)); refine box_event ?hg (N := 2) ?hd (cs := #[.string (⟨#[]⟩ : ByteArray), .string (⟨#[]⟩ : ByteArray)]) (t := 27) ?hr ?_; (case hd => rfl); (case hg => rfl); (case hr => first | (go_simp; done) | (go_simp; rfl)); intro gb252 hg w4 hbox hb; have n0_ := Aside0.mk (below_step bw hb); have n1_ := Aside0.mk (hbox); have n2_ := Aside0.mk ((by rw [hg]; exact (below_size bw) : w.heap.size ≤ gb252)); have n3_ := Aside0.mk ((by rw [hg]; exact (below_size bw) : w.heap.size ≤ gb252)); clear HB; have HB := n0_; have BK252 := n1_; have GW252 := n2_; have GE252 := n3_; clear n0_ n1_ n2_ n3_; clear hb hbox hg) | ((with_reducible refine gate_callee (f := 39) rfl ?_); refine goesL_ (some 11) rfl rfl Tryd.func39 (by kernel_rfl) rfl #[.slice A0 l0.length c0, .bool false] rfl am ?_; (with_reducible refine (addr_joined.calls k (fun k_ => k_ < w.heap.size) _ _ l0 false t253 t254 t257 _ ?side1 A2.out).mono ?_); (case side1 => exact Kd.V_mk HC0.out (Kd.F_below (Kd.C_F k71_heap HR0.out) bwS)); rintro e w5 ⟨v255, rfl, ho0, hb⟩; refine ⟨_, rfl, ?_⟩; have n0_ := Aside0.mk (Kd.V_lower (Kd.V_mono (ok' := fun k_ => k_ ≠ gb252) ho0 (fun k_ hk_ => Or.elim hk_ (fun hs_ => fun e_ => Nat.not_le.2 hs_ (by rw [e_]; exact GW252.out)) (fun hn_ => (Kd.freshB (g := gb252) (o := .cells #[.string (⟨#[]⟩ : ByteArray), .string (⟨#[]⟩ : ByteArray)] 27 (0, 0)) bk k_ hn_)))) (below_size bwS)); have n1_ := Aside0.mk (blk_below (g := gb252) (o := .cells #[.string (⟨#[]⟩ : ByteArray), .string (⟨#[]⟩ : ByteArray)] 27 (0, 0)) bk hb); have n2_ := Aside0.mk (below_step bwS hb); clear BK252; clear HB; have HO256 := n0_; have BK252 := n1_; have HB := n2_; clear n0_ n1_ n2_; (try clear hb); (try clear hb2); (try clear hk); (try clear hi); (try clear ho0)))
 (try simp only [Act.put, List.setIfInBounds_toArray, List.set_cons_zero, List.set_cons_succ])
 go_cut [21] (fun v21 wc => ∃ (kq : Nat) (x21_2 : Bool), v21 = .bool x21_2 ∧ Aside0 (addr_Of.j0 kq t254 t253 x21_2 = some (r1, r2, r3)) ∧ Aside0 (kq ≤ k) ∧ Aside0 (Kd.V k71 71 wc w.heap.size (fun k_ => k_ ≠ gb252) v255 t254) ∧ Aside0 (wc.heap[gb252]? = some (.cells #[.string (⟨#[]⟩ : ByteArray), .string (⟨#[]⟩ : ByteArray)] 27 (0, 0))) ∧ Aside0 (Below w.heap.size w wc))
 case first =>
  have H := HC3.out; clear HC3
  by_cases c6 : t257 = true
  ·subst c6; have H1 : ((addr_is.f t254 (⟨#[64]⟩ : ByteArray)).bind fun t258 => (addr_Of.j0 k t254 t253 (!t258))) = some (r1, r2, r3) := by rw [if_pos rfl] at H; exact H
   clear H; have H := H1; clear H1; replace H := Option.bind_eq_some_iff.mp H; obtain ⟨t258, A70, H⟩ := H; replace H : (addr_Of.j0 k t254 t253 (!t258)) = some (r1, r2, r3) := H; have A7 := Aside0.mk A70; clear A70; have H' := Aside0.mk H; clear H; obtain ⟨Ao8, co8, eo8⟩ := Kd.V_slice HO256.out; subst eo8
   go_wp2_with (first | (go_at_call 40; (with_reducible refine (addr_is.calls _ _ t254 (⟨#[64]⟩ : ByteArray) t258 _ ?side1 ?side2 A7.out).mono ?_); (case side1 => repeat (first | exact (Kd.V_reads' HO256.out).2.2 | (with_reducible refine Kd.C_alloc ?_ _) | (with_reducible refine Kd.C_drewN ?_ _) | (with_reducible refine Kd.C_drew ?_))); (case side2 => exact (Kd.V_reads' HO256.out).2.1); rintro e w' ⟨rfl, ⟨nd, rfl⟩⟩))
   go_meet
   case rel => exact ⟨_, (!t258), cl, H', ⟨by first | omega | exact Nat.le_refl _⟩, ⟨by (with_reducible repeat (first | apply Kd.V_alloc | apply Kd.V_drewN | apply Kd.V_drew)); exact HO256.out⟩, ⟨bk⟩, ⟨bwS⟩⟩
  ·replace c6 := Bool.eq_false_iff.mpr c6; subst c6; have H1 : (addr_Of.j0 k t254 t253 true) = some (r1, r2, r3) := by rw [if_neg (show ¬ (false = true) by decide)] at H; exact H
   clear H; have H := H1; clear H1; have H' := Aside0.mk H; clear H
   go_wp2
   go_meet
   case rel => exact ⟨_, (true), cl, H', ⟨by first | omega | exact Nat.le_refl _⟩, ⟨by (with_reducible repeat (first | apply Kd.V_alloc | apply Kd.V_drewN | apply Kd.V_drew)); exact HO256.out⟩, ⟨bk⟩, ⟨bwS⟩⟩
 case rest =>
  clear HC3
  try clear c2
  try clear p2
  try clear c3
  try clear c6
  obtain ⟨kq, x21_2, rfl, HA, HJ2, HO_0, BK252, HB⟩ := hcut; cases kq with
  | zero => exact absurd HA.out (by simp [addr_Of.j0])
  | succ kj2 =>
   have H := HA.out; clear HA; simp only [addr_Of.j0] at H
   by_cases c9 : x21_2 = true
   ·subst c9; have H1 : (some ((⟨#[]⟩ : ByteArray), (⟨#[]⟩ : ByteArray), 130)) = some (r1, r2, r3) := by rw [if_pos rfl] at H; exact H
    clear H; have H := H1; clear H1; simp only [Option.some.injEq, Prod.mk.injEq] at H; obtain ⟨rfl, rfl, rfl⟩ := H; have hcz10_0 : wc.cell? ⟨gb252, 0, none⟩ = some (.string (⟨#[]⟩ : ByteArray)) := (blk_cell BK252.out 0).trans rfl; have hcz10_1 : wc.cell? ⟨gb252, 1, none⟩ = some (.string (⟨#[]⟩ : ByteArray)) := (blk_cell BK252.out 1).trans rfl; have hfz10_0 := blk_frozen BK252.out 0; have hfz10_1 := blk_frozen BK252.out 1
    go_wp2
    refine bodyPost_ret (results_ct rfl _ _ gb252 27 #[.string (⟨#[]⟩ : ByteArray), .string (⟨#[]⟩ : ByteArray)] (0, 0) _ rfl (by (with_reducible repeat (first | refine blk_drewN ?_ _ | refine blk_drew ?_ | refine blk_alloc ?_ _)); refine blk_put (cs := #[.string (⟨#[]⟩ : ByteArray), .string (⟨#[]⟩ : ByteArray)]) ?_ 1 _ rfl; (with_reducible repeat (first | refine blk_drewN ?_ _ | refine blk_drew ?_ | refine blk_alloc ?_ _)); exact blk_put (cs := #[.string (⟨#[]⟩ : ByteArray), .string (⟨#[]⟩ : ByteArray)]) bk 0 _ rfl) Tryd.underlying27 rfl (by kernel_rfl)) rfl ?_; exact ⟨ew, bwS⟩
   ·replace c9 := Bool.eq_false_iff.mpr c9; subst c9; have H1 : (if 1 ≤ (t254.length : Int) then ((addr_joined.f kj2 (t254.drop 1) true).bind fun bt264 => (if bt264.2.2 = true then (addr_Of.j1 kj2 t253 bt264.1 (decide ((bt264.2.1.length : Int) > 0))) else (addr_Of.j1 kj2 t253 bt264.1 true))) else (none)) = some (r1, r2, r3) := by rw [if_neg (show ¬ (false = true) by decide)] at H; exact H
    clear H; have H := H1; clear H1
    by_cases c11 : 1 ≤ (t254.length : Int)
    ·rw [if_pos c11] at H; have c11b0 := eq_true c11; have c11b1 : decide (1 ≤ (t254.length : Int)) = true := decide_eq_true c11; clear c11; obtain ⟨y259, hy259⟩ : ∃ y_ : List (S71), y_ = (t254.drop 1) := ⟨_, rfl⟩
     replace H : ((addr_joined.f kj2 y259 true).bind fun bt264 => (if bt264.2.2 = true then (addr_Of.j1 kj2 t253 bt264.1 (decide ((bt264.2.1.length : Int) > 0))) else (addr_Of.j1 kj2 t253 bt264.1 true))) = some (r1, r2, r3) := by first | (rw [hy259]; with_reducible exact H) | (have H2_ := (Option.bind_some _ _).symm.trans H; rw [hy259]; with_reducible exact H2_) | (have H2_ := (Option.bind_some _ _).symm.trans H; with_reducible exact H2_) | with_reducible exact H | (rw [hy259]; exact H) | exact H
     have Ny259 := Aside0.mk hy259; clear hy259; replace H := Option.bind_eq_some_iff.mp H; obtain ⟨⟨t264, t265, t268⟩, A120, H⟩ := H; replace H : (if t268 = true then (addr_Of.j1 kj2 t253 t264 (decide ((t265.length : Int) > 0))) else (addr_Of.j1 kj2 t253 t264 true)) = some (r1, r2, r3) := H; have A12 := Aside0.mk A120; clear A120; have HC13 := Aside0.mk H; clear H; obtain ⟨Ao15, co15, eo15⟩ := Kd.V_slice HO_0.out; subst eo15; have q14 : (1 : Int) ≤ ((t254.length : Int) : Int) := od; obtain ⟨i014, hi014, _, hsz14, _⟩ := info_parts info71; have hroom14 : t254.length ≤ co15 := (Kd.V_reads' HO_0.out).2.1; have hC14 : Kd.F k71 _ _ Ao15 t254.length t254 := (Kd.V_at (base := w.heap.size) HO_0.out).2.2; have hcut14 := cut_from (P := Tryd.prog) 53 71 .i64 Tryd.underlying53 hi014 2 hsz14 Ao15 t254.length co15 1 (by omega) q14; have hr14 := Kd.F_cut (m := (1 : Int).toNat) (c := co15) hC14 (by omega) hroom14; obtain ⟨A14, hA14⟩ : ∃ A1, A1 = (if co15 = (1 : Int).toNat then Ao15 else (Ao15 : Option Addr).map (·.add ((1 : Int).toNat * 2))) := ⟨_, rfl⟩
     obtain ⟨c14, hc14⟩ : ∃ c1, c1 = co15 - (1 : Int).toNat := ⟨_, rfl⟩
     have hy14 : y259.length = t254.length - (1 : Int).toNat := (by rw [Ny259.out, List.length_drop] <;> omega)
     rw [show (t254).drop (1 : Int).toNat = y259 from Ny259.out.symm] at hr14; replace hr14 : Kd.F k71 _ _ A14 y259.length y259 := (by rw [hA14]; exact hr14)
     rw [← hy14, ← hA14, ← hc14] at hcut14; have HO263 := Aside0.mk (show Kd.V k71 71 _ w.heap.size _ (.slice A14 y259.length c14) y259 from Kd.V_mk (by rw [hy14, hc14]; exact Nat.sub_le_sub_right hroom14 _) hr14); have HC263 := Aside0.mk (show y259.length ≤ c14 from by rw [hy14, hc14]; exact Nat.sub_le_sub_right hroom14 _); clear hr14 hC14 hroom14 hi014 hsz14 hc14; have KY14 := Aside0.mk hy14; have KA14 := Aside0.mk hA14; clear hy14 hA14; replace q14 := eq_true q14
     go_upto_region 5 with (first | ((with_reducible refine gate_callee (f := 39) rfl ?_); refine goesL_ (some 26) rfl rfl Tryd.func39 (by kernel_rfl) rfl #[.slice A14 y259.length c14, .bool true] rfl am ?_; (with_reducible refine (addr_joined.calls kj2 (fun k_ => k_ ≠ gb252) _ _ y259 true t264 t265 t268 _ ?side1 A12.out).mono ?_); (case side1 => exact HO263.out); rintro e w16 ⟨v266, rfl, ho0, hb⟩; refine ⟨_, rfl, ?_⟩; have n0_ := Aside0.mk (Kd.V_below (by (with_reducible repeat (first | apply Kd.V_alloc | apply Kd.V_drewN | apply Kd.V_drew)); exact HO_0.out) hb); have n1_ := Aside0.mk (Kd.V_below (by (with_reducible repeat (first | apply Kd.V_alloc | apply Kd.V_drewN | apply Kd.V_drew)); exact HO263.out) hb); have n2_ := Aside0.mk (Kd.V_lower (Kd.V_mono (ok' := fun k_ => k_ ≠ gb252) ho0 (fun k_ hk_ => Or.elim hk_ (fun hs_ => hs_) (fun hn_ => (Kd.freshB (g := gb252) (o := .cells #[.string (⟨#[]⟩ : ByteArray), .string (⟨#[]⟩ : ByteArray)] 27 (0, 0)) bk k_ hn_)))) (below_size bwS)); have n3_ := Aside0.mk (blk_below (g := gb252) (o := .cells #[.string (⟨#[]⟩ : ByteArray), .string (⟨#[]⟩ : ByteArray)] 27 (0, 0)) bk hb); have n4_ := Aside0.mk (below_step bwS hb); clear HO_0; clear HO263; clear BK252; clear HB; have HO_0 := n0_; have HO263 := n1_; have HO267 := n2_; have BK252 := n3_; have HB := n4_; clear n0_ n1_ n2_ n3_ n4_; (try clear hb); (try clear hb2); (try clear hk); (try clear hi); (try clear ho0)))
     (try simp only [Act.put, List.setIfInBounds_toArray, List.set_cons_zero, List.set_cons_succ])
     go_cut [36] (fun v36 wc => ∃ (kq : Nat) (x36_12 : Bool), v36 = .bool x36_12 ∧ Aside0 (addr_Of.j1 kq t253 t264 x36_12 = some (r1, r2, r3)) ∧ Aside0 (kq ≤ kj2) ∧ Aside0 (wc.heap[gb252]? = some (.cells #[.string (⟨#[]⟩ : ByteArray), .string (⟨#[]⟩ : ByteArray)] 27 (0, 0))) ∧ Aside0 (Below w.heap.size w wc))
     case first =>
      have H := HC13.out; clear HC13
      by_cases c17 : t268 = true
      ·subst c17; have H1 : (addr_Of.j1 kj2 t253 t264 (decide ((t265.length : Int) > 0))) = some (r1, r2, r3) := by rw [if_pos rfl] at H; exact H
       clear H; have H := H1; clear H1; have H' := Aside0.mk H; clear H; obtain ⟨Ao18, co18, eo18⟩ := Kd.V_slice HO267.out; subst eo18
       go_wp2
       go_meet
       case rel => exact ⟨_, (decide ((t265.length : Int) > 0)), cl, H', ⟨by have := HJ2.out; first | omega | exact Nat.le_refl _⟩, ⟨bk⟩, ⟨bwS⟩⟩
      ·replace c17 := Bool.eq_false_iff.mpr c17; subst c17; have H1 : (addr_Of.j1 kj2 t253 t264 true) = some (r1, r2, r3) := by rw [if_neg (show ¬ (false = true) by decide)] at H; exact H
       clear H; have H := H1; clear H1; have H' := Aside0.mk H; clear H
       go_wp2
       go_meet
       case rel => exact ⟨_, (true), cl, H', ⟨by have := HJ2.out; first | omega | exact Nat.le_refl _⟩, ⟨bk⟩, ⟨bwS⟩⟩
     case rest =>
      clear HC13
      try clear c1
      try clear q1
      try clear c2
      try clear p2
      try clear c3
      try clear c6
      try clear c9
      try clear c11
      try clear c11b0
      try clear c11b1
      try clear c14
      try clear q14
      try clear c17
      try clear hcz10_0
      try clear hcz10_1
      try clear hfz10_0
      try clear hfz10_1
      try clear p2
      try clear q14
      obtain ⟨kq, x36_12, rfl, HA, HJ12, BK252, HB⟩ := hcut; cases kq with
      | zero => exact absurd HA.out (by simp [addr_Of.j1])
      | succ kj12 =>
       have H := HA.out; clear HA; simp only [addr_Of.j1] at H
       by_cases c19 : x36_12 = true
       ·subst c19; have H1 : (some ((⟨#[]⟩ : ByteArray), (⟨#[]⟩ : ByteArray), 130)) = some (r1, r2, r3) := by rw [if_pos rfl] at H; exact H
        clear H; have H := H1; clear H1; simp only [Option.some.injEq, Prod.mk.injEq] at H; obtain ⟨rfl, rfl, rfl⟩ := H; have hcz20_0 : wc.cell? ⟨gb252, 0, none⟩ = some (.string (⟨#[]⟩ : ByteArray)) := (blk_cell BK252.out 0).trans rfl; have hcz20_1 : wc.cell? ⟨gb252, 1, none⟩ = some (.string (⟨#[]⟩ : ByteArray)) := (blk_cell BK252.out 1).trans rfl; have hfz20_0 := blk_frozen BK252.out 0; have hfz20_1 := blk_frozen BK252.out 1
        go_wp2
        refine bodyPost_ret (results_ct rfl _ _ gb252 27 #[.string (⟨#[]⟩ : ByteArray), .string (⟨#[]⟩ : ByteArray)] (0, 0) _ rfl (by (with_reducible repeat (first | refine blk_drewN ?_ _ | refine blk_drew ?_ | refine blk_alloc ?_ _)); refine blk_put (cs := #[.string (⟨#[]⟩ : ByteArray), .string (⟨#[]⟩ : ByteArray)]) ?_ 1 _ rfl; (with_reducible repeat (first | refine blk_drewN ?_ _ | refine blk_drew ?_ | refine blk_alloc ?_ _)); exact blk_put (cs := #[.string (⟨#[]⟩ : ByteArray), .string (⟨#[]⟩ : ByteArray)]) bk 0 _ rfl) Tryd.underlying27 rfl (by kernel_rfl)) rfl ?_; exact ⟨ew, bwS⟩
       ·replace c19 := Bool.eq_false_iff.mpr c19; subst c19; have H1 : ((glyph_Fold.f t264).bind fun t269 => ((addr_why.f kj12 t253 t269).bind fun t271 => (if t271 = 0 then (some (t253, t269, 0)) else (some ((⟨#[]⟩ : ByteArray), (⟨#[]⟩ : ByteArray), t271))))) = some (r1, r2, r3) := by rw [if_neg (show ¬ (false = true) by decide)] at H; exact H
        clear H; have H := H1; clear H1; replace H := Option.bind_eq_some_iff.mp H; obtain ⟨t269, A210, H⟩ := H; replace H : ((addr_why.f kj12 t253 t269).bind fun t271 => (if t271 = 0 then (some (t253, t269, 0)) else (some ((⟨#[]⟩ : ByteArray), (⟨#[]⟩ : ByteArray), t271)))) = some (r1, r2, r3) := H; have A21 := Aside0.mk A210; clear A210; replace H := Option.bind_eq_some_iff.mp H; obtain ⟨t271, A220, H⟩ := H; replace H : (if t271 = 0 then (some (t253, t269, 0)) else (some ((⟨#[]⟩ : ByteArray), (⟨#[]⟩ : ByteArray), t271))) = some (r1, r2, r3) := H; have A22 := Aside0.mk A220; clear A220
        by_cases c23 : t271 = 0
        ·rw [if_pos c23] at H; have c23b0 : (t271 == 0) = true := beq_iff_eq.mpr c23; have c23b1 : (t271 != 0) = false := bne_eq_false_iff_eq.mpr c23; clear c23; simp only [Option.some.injEq, Prod.mk.injEq] at H; obtain ⟨rfl, rfl, rfl⟩ := H
         go_wp2_with (first | ((with_reducible refine gate_callee (f := 36) rfl ?_); refine goesL_ (some 40) rfl rfl Tryd.func36 (by kernel_rfl) rfl #[.string t264] rfl am ?_; (with_reducible refine (glyph_Fold.calls t264 t269 _ A21.out).mono ?_); rintro e w24 ⟨rfl, hb⟩; refine ⟨_, rfl, ?_⟩; have n0_ := Aside0.mk (blk_below (g := gb252) (o := .cells #[.string (⟨#[]⟩ : ByteArray), .string (⟨#[]⟩ : ByteArray)] 27 (0, 0)) bk hb); have n1_ := Aside0.mk (below_step bwS hb); clear BK252; clear HB; have BK252 := n0_; have HB := n1_; clear n0_ n1_; (try clear hb); (try clear hb2); (try clear hk); (try clear hi)) | ((with_reducible refine gate_dst (N := 7) rfl ?_); (try (refine gate_guard (by rfl) ?_; dsimp only)); refine box_event ?hg (N := 7) ?hd (cs := #[.string (⟨#[]⟩ : ByteArray), .string (⟨#[]⟩ : ByteArray)]) (t := 27) ?hr ?_; (case hd => rfl); (case hg => rfl); (case hr => first | (go_simp; done) | (go_simp; rfl)); intro gb270 hg w25 hbox hb; have n0_ := Aside0.mk (blk_below (g := gb252) (o := .cells #[.string (⟨#[]⟩ : ByteArray), .string (⟨#[]⟩ : ByteArray)] 27 (0, 0)) bk hb); have n1_ := Aside0.mk (below_step bwS hb); have n2_ := Aside0.mk (hbox); have n3_ := Aside0.mk ((by rw [hg]; exact (below_size bwS) : w.heap.size ≤ gb270)); have n4_ := Aside0.mk ((by rw [hg]; exact (below_size bwS) : w.heap.size ≤ gb270)); have n5_ := Aside0.mk ((by rw [hg]; exact Nat.ne_of_lt (blk_lt (g := gb252) (o := .cells #[.string (⟨#[]⟩ : ByteArray), .string (⟨#[]⟩ : ByteArray)] 27 (0, 0)) bk) : gb252 ≠ gb270)); have n6_ := Aside0.mk ((by rw [hg]; exact Nat.ne_of_gt (blk_lt (g := gb252) (o := .cells #[.string (⟨#[]⟩ : ByteArray), .string (⟨#[]⟩ : ByteArray)] 27 (0, 0)) bk) : gb270 ≠ gb252)); clear BK252; clear HB; have BK252 := n0_; have HB := n1_; have BK270 := n2_; have GW270 := n3_; have GE270 := n4_; have NB252_270 := n5_; have NB270_252 := n6_; clear n0_ n1_ n2_ n3_ n4_ n5_ n6_; clear hb hbox hg; have hnb26 := NB270_252.out; have hnc26 := NB252_270.out; have hcz27_0 : w25.cell? ⟨gb270, 0, none⟩ = some (.string (⟨#[]⟩ : ByteArray)) := (blk_cell BK270.out 0).trans rfl; have hcz27_1 : w25.cell? ⟨gb270, 1, none⟩ = some (.string (⟨#[]⟩ : ByteArray)) := (blk_cell BK270.out 1).trans rfl; have hfz27_0 := blk_frozen BK270.out 0; have hfz27_1 := blk_frozen BK270.out 1) | ((with_reducible refine gate_callee (f := 35) rfl ?_); refine goesL_ (some 43) rfl rfl Tryd.func35 (by kernel_rfl) rfl #[.agg #[.string t253, .string t269]] rfl am ?_; (with_reducible refine (addr_why.calls kj12 t253 t269 t271 _ A22.out).mono ?_); rintro e w28 ⟨rfl, hb⟩; refine ⟨_, rfl, ?_⟩; have n0_ := Aside0.mk (blk_below (g := gb252) (o := .cells #[.string (⟨#[]⟩ : ByteArray), .string (⟨#[]⟩ : ByteArray)] 27 (0, 0)) (by (with_reducible repeat (first | refine blk_drewN ?_ _ | refine blk_drew ?_ | refine blk_alloc ?_ _)); refine blk_far ?_ NB252_270.out _; (with_reducible repeat (first | refine blk_drewN ?_ _ | refine blk_drew ?_ | refine blk_alloc ?_ _)); refine blk_far ?_ NB252_270.out _; (with_reducible repeat (first | refine blk_drewN ?_ _ | refine blk_drew ?_ | refine blk_alloc ?_ _)); exact BK252.out) hb); have n1_ := Aside0.mk (blk_below (g := gb270) (o := .cells #[.string t253, .string t269] 27 (0, 0)) (by (with_reducible repeat (first | refine blk_drewN ?_ _ | refine blk_drew ?_ | refine blk_alloc ?_ _)); refine blk_put (cs := #[.string t253, .string (⟨#[]⟩ : ByteArray)]) ?_ 1 _ rfl; (with_reducible repeat (first | refine blk_drewN ?_ _ | refine blk_drew ?_ | refine blk_alloc ?_ _)); exact blk_put (cs := #[.string (⟨#[]⟩ : ByteArray), .string (⟨#[]⟩ : ByteArray)]) bk 0 _ rfl) hb); have n2_ := Aside0.mk (below_step bwS hb); clear BK252; clear BK270; clear HB; have BK252 := n0_; have BK270 := n1_; have HB := n2_; clear n0_ n1_ n2_; (try clear hb); (try clear hb2); (try clear hk); (try clear hi); have hcz29_0 : w28.cell? ⟨gb270, 0, none⟩ = some (.string t253) := (blk_cell BK270.out 0).trans rfl; have hcz29_1 : w28.cell? ⟨gb270, 1, none⟩ = some (.string t269) := (blk_cell BK270.out 1).trans rfl; have hfz29_0 := blk_frozen BK270.out 0; have hfz29_1 := blk_frozen BK270.out 1; have hcz30_0 : w28.cell? ⟨gb252, 0, none⟩ = some (.string (⟨#[]⟩ : ByteArray)) := (blk_cell BK252.out 0).trans rfl; have hcz30_1 : w28.cell? ⟨gb252, 1, none⟩ = some (.string (⟨#[]⟩ : ByteArray)) := (blk_cell BK252.out 1).trans rfl; have hfz30_0 := blk_frozen BK252.out 0; have hfz30_1 := blk_frozen BK252.out 1))
         refine bodyPost_ret (results_ct rfl _ _ gb252 27 #[.string t253, .string t269] (0, 0) _ rfl (by (with_reducible repeat (first | refine blk_drewN ?_ _ | refine blk_drew ?_ | refine blk_alloc ?_ _)); refine blk_put (cs := #[.string t253, .string (⟨#[]⟩ : ByteArray)]) ?_ 1 _ rfl; (with_reducible repeat (first | refine blk_drewN ?_ _ | refine blk_drew ?_ | refine blk_alloc ?_ _)); exact blk_put (cs := #[.string (⟨#[]⟩ : ByteArray), .string (⟨#[]⟩ : ByteArray)]) bk 0 _ rfl) Tryd.underlying27 rfl (by kernel_rfl)) rfl ?_; exact ⟨ew, bwS⟩
        ·rw [if_neg c23] at H; have c23b0 : (t271 == 0) = false := beq_eq_false_iff_ne.mpr c23; have c23b1 : (t271 != 0) = true := bne_iff_ne.mpr c23; simp only [Option.some.injEq, Prod.mk.injEq] at H; obtain ⟨rfl, rfl, rfl⟩ := H
         go_wp2_with (first | ((with_reducible refine gate_callee (f := 36) rfl ?_); refine goesL_ (some 40) rfl rfl Tryd.func36 (by kernel_rfl) rfl #[.string t264] rfl am ?_; (with_reducible refine (glyph_Fold.calls t264 t269 _ A21.out).mono ?_); rintro e w31 ⟨rfl, hb⟩; refine ⟨_, rfl, ?_⟩; have n0_ := Aside0.mk (blk_below (g := gb252) (o := .cells #[.string (⟨#[]⟩ : ByteArray), .string (⟨#[]⟩ : ByteArray)] 27 (0, 0)) bk hb); have n1_ := Aside0.mk (below_step bwS hb); clear BK252; clear HB; have BK252 := n0_; have HB := n1_; clear n0_ n1_; (try clear hb); (try clear hb2); (try clear hk); (try clear hi)) | ((with_reducible refine gate_dst (N := 7) rfl ?_); (try (refine gate_guard (by rfl) ?_; dsimp only)); refine box_event ?hg (N := 7) ?hd (cs := #[.string (⟨#[]⟩ : ByteArray), .string (⟨#[]⟩ : ByteArray)]) (t := 27) ?hr ?_; (case hd => rfl); (case hg => rfl); (case hr => first | (go_simp; done) | (go_simp; rfl)); intro gb270 hg w32 hbox hb; have n0_ := Aside0.mk (blk_below (g := gb252) (o := .cells #[.string (⟨#[]⟩ : ByteArray), .string (⟨#[]⟩ : ByteArray)] 27 (0, 0)) bk hb); have n1_ := Aside0.mk (below_step bwS hb); have n2_ := Aside0.mk (hbox); have n3_ := Aside0.mk ((by rw [hg]; exact (below_size bwS) : w.heap.size ≤ gb270)); have n4_ := Aside0.mk ((by rw [hg]; exact (below_size bwS) : w.heap.size ≤ gb270)); have n5_ := Aside0.mk ((by rw [hg]; exact Nat.ne_of_lt (blk_lt (g := gb252) (o := .cells #[.string (⟨#[]⟩ : ByteArray), .string (⟨#[]⟩ : ByteArray)] 27 (0, 0)) bk) : gb252 ≠ gb270)); have n6_ := Aside0.mk ((by rw [hg]; exact Nat.ne_of_gt (blk_lt (g := gb252) (o := .cells #[.string (⟨#[]⟩ : ByteArray), .string (⟨#[]⟩ : ByteArray)] 27 (0, 0)) bk) : gb270 ≠ gb252)); clear BK252; clear HB; have BK252 := n0_; have HB := n1_; have BK270 := n2_; have GW270 := n3_; have GE270 := n4_; have NB252_270 := n5_; have NB270_252 := n6_; clear n0_ n1_ n2_ n3_ n4_ n5_ n6_; clear hb hbox hg; have hnb33 := NB270_252.out; have hnc33 := NB252_270.out; have hcz34_0 : w32.cell? ⟨gb270, 0, none⟩ = some (.string (⟨#[]⟩ : ByteArray)) := (blk_cell BK270.out 0).trans rfl; have hcz34_1 : w32.cell? ⟨gb270, 1, none⟩ = some (.string (⟨#[]⟩ : ByteArray)) := (blk_cell BK270.out 1).trans rfl; have hfz34_0 := blk_frozen BK270.out 0; have hfz34_1 := blk_frozen BK270.out 1) | ((with_reducible refine gate_callee (f := 35) rfl ?_); refine goesL_ (some 43) rfl rfl Tryd.func35 (by kernel_rfl) rfl #[.agg #[.string t253, .string t269]] rfl am ?_; (with_reducible refine (addr_why.calls kj12 t253 t269 t271 _ A22.out).mono ?_); rintro e w35 ⟨rfl, hb⟩; refine ⟨_, rfl, ?_⟩; have n0_ := Aside0.mk (blk_below (g := gb252) (o := .cells #[.string (⟨#[]⟩ : ByteArray), .string (⟨#[]⟩ : ByteArray)] 27 (0, 0)) (by (with_reducible repeat (first | refine blk_drewN ?_ _ | refine blk_drew ?_ | refine blk_alloc ?_ _)); refine blk_far ?_ NB252_270.out _; (with_reducible repeat (first | refine blk_drewN ?_ _ | refine blk_drew ?_ | refine blk_alloc ?_ _)); refine blk_far ?_ NB252_270.out _; (with_reducible repeat (first | refine blk_drewN ?_ _ | refine blk_drew ?_ | refine blk_alloc ?_ _)); exact BK252.out) hb); have n1_ := Aside0.mk (blk_below (g := gb270) (o := .cells #[.string t253, .string t269] 27 (0, 0)) (by (with_reducible repeat (first | refine blk_drewN ?_ _ | refine blk_drew ?_ | refine blk_alloc ?_ _)); refine blk_put (cs := #[.string t253, .string (⟨#[]⟩ : ByteArray)]) ?_ 1 _ rfl; (with_reducible repeat (first | refine blk_drewN ?_ _ | refine blk_drew ?_ | refine blk_alloc ?_ _)); exact blk_put (cs := #[.string (⟨#[]⟩ : ByteArray), .string (⟨#[]⟩ : ByteArray)]) bk 0 _ rfl) hb); have n2_ := Aside0.mk (below_step bwS hb); clear BK252; clear BK270; clear HB; have BK252 := n0_; have BK270 := n1_; have HB := n2_; clear n0_ n1_ n2_; (try clear hb); (try clear hb2); (try clear hk); (try clear hi); have hcz36_0 : w35.cell? ⟨gb252, 0, none⟩ = some (.string (⟨#[]⟩ : ByteArray)) := (blk_cell BK252.out 0).trans rfl; have hcz36_1 : w35.cell? ⟨gb252, 1, none⟩ = some (.string (⟨#[]⟩ : ByteArray)) := (blk_cell BK252.out 1).trans rfl; have hfz36_0 := blk_frozen BK252.out 0; have hfz36_1 := blk_frozen BK252.out 1))
         refine bodyPost_ret (results_ct rfl _ _ gb252 27 #[.string (⟨#[]⟩ : ByteArray), .string (⟨#[]⟩ : ByteArray)] (0, 0) _ rfl (by (with_reducible repeat (first | refine blk_drewN ?_ _ | refine blk_drew ?_ | refine blk_alloc ?_ _)); refine blk_put (cs := #[.string (⟨#[]⟩ : ByteArray), .string (⟨#[]⟩ : ByteArray)]) ?_ 1 _ rfl; (with_reducible repeat (first | refine blk_drewN ?_ _ | refine blk_drew ?_ | refine blk_alloc ?_ _)); exact blk_put (cs := #[.string (⟨#[]⟩ : ByteArray), .string (⟨#[]⟩ : ByteArray)]) bk 0 _ rfl) Tryd.underlying27 rfl (by kernel_rfl)) rfl ?_; exact ⟨ew, bwS⟩
    ·rw [if_neg c11] at H; exact absurd H (by simp)

end Go.Proofs.YtnnlhpmkfijppaaDoor.Fn
namespace Go.Proofs.YtnnlhpmkfijppaaDoor.Fn
open Go.RowKit Go.Proofs.YtnnlhpmkfijppaaDoorW.PrintWords Go.Proofs.YtnnlhpmkfijppaaDoorW.PrintLast Go.Proofs.YtnnlhpmkfijppaaDoorW.PrintMore
attribute [local go_sem] max2_int min2_int max_two min_two max_three min_three max_four min_four
set_option linter.unusedVariables false
set_option linter.unusedSimpArgs false

def lex_escaped.f (a0 : ByteArray) : Option (Int) := if a0.toList = ([] : List UInt8) then (some 9) else (if 0 < (a0.size : Int) then ((lex_text.f (bt a0 0)).bind fun t203 => (if t203 = true then (some 0) else (some 3))) else (none))
set_option maxHeartbeats 8000000 in
set_option maxRecDepth 100000 in
theorem lex_escaped.calls (a0 : ByteArray) (r : Int) (w : World) (h : lex_escaped.f a0 = some r) :
  Calls Tryd.prog 66 #[.string a0] w fun e w' => e = .returned (.int .i64 r) ∧ Drawn0 w w' := by
 have H : (if a0.toList = ([] : List UInt8) then (some 9) else (if 0 < (a0.size : Int) then ((lex_text.f (bt a0 0)).bind fun t203 => (if t203 = true then (some 0) else (some 3))) else (none))) = some r := h; clear h
 by_cases c2 : a0.toList = ([] : List UInt8)
 ·rw [if_pos c2] at H; have c2b0 : (a0.toList == ([] : List UInt8)) = true := beq_iff_eq.mpr c2; have c2b1 : (a0.toList != ([] : List UInt8)) = false := bne_eq_false_iff_eq.mpr c2; clear c2; obtain rfl := Option.some.inj H
  go_enter Tryd.func66, Tryd.ntmps66
  go_wp2
  go_ret
  exact ⟨cl, d0⟩
 ·rw [if_neg c2] at H; have c2b0 : (a0.toList == ([] : List UInt8)) = false := beq_eq_false_iff_ne.mpr c2; have c2b1 : (a0.toList != ([] : List UInt8)) = true := bne_iff_ne.mpr c2
  by_cases c3 : 0 < (a0.size : Int)
  ·rw [if_pos c3] at H; have c3b0 : decide (0 < (a0.size : Int)) = true := decide_eq_true c3; have c3b1 : decide (0 < a0.size) = true := decide_eq_true (by omega); clear c3; replace H := Option.bind_eq_some_iff.mp H; obtain ⟨t203, A50, H⟩ := H; replace H : (if t203 = true then (some 0) else (some 3)) = some r := H; have A5 := Aside0.mk A50; clear A50
   by_cases c6 : t203 = true
   ·subst c6; have H1 : (some 0) = some r := by rw [if_pos rfl] at H; exact H
    clear H; have H := H1; clear H1; obtain rfl := Option.some.inj H; have p4 : 0 ≤ (0 : Int) := (by omega)
    have q4 : 0 < a0.size := (by have : (0 : Int) < (a0.size : Int) := od; omega)
    have hx4 : ∀ h : 0 < a0.size, ((a0[0]'h).toNat : Int) = bt a0 0 := bt_at a0 0; clear p4; have qi4 : (0 < (a0.size : Int)) = True := eq_true (od); replace q4 := eq_true q4
    go_enter Tryd.func66, Tryd.ntmps66
    go_wp2_with (first | ((with_reducible refine gate_callee (f := 45) rfl ?_); refine goesL_ (some 9) rfl rfl Tryd.func45 (by kernel_rfl) rfl #[.int .u8 (bt a0 0)] rfl am ?_; (with_reducible refine (lex_text.calls (bt a0 0) true _ A5.out).mono ?_); rintro e w' ⟨rfl, ⟨nd, rfl⟩⟩; refine ⟨_, rfl, ?_⟩))
    go_ret
    exact ⟨cl, d0⟩
   ·replace c6 := Bool.eq_false_iff.mpr c6; subst c6; have H1 : (some 3) = some r := by rw [if_neg (show ¬ (false = true) by decide)] at H; exact H
    clear H; have H := H1; clear H1; obtain rfl := Option.some.inj H; have p4 : 0 ≤ (0 : Int) := (by omega)
    have q4 : 0 < a0.size := (by have : (0 : Int) < (a0.size : Int) := od; omega)
    have hx4 : ∀ h : 0 < a0.size, ((a0[0]'h).toNat : Int) = bt a0 0 := bt_at a0 0; clear p4; have qi4 : (0 < (a0.size : Int)) = True := eq_true (od); replace q4 := eq_true q4
    go_enter Tryd.func66, Tryd.ntmps66
    go_wp2_with (first | ((with_reducible refine gate_callee (f := 45) rfl ?_); refine goesL_ (some 9) rfl rfl Tryd.func45 (by kernel_rfl) rfl #[.int .u8 (bt a0 0)] rfl am ?_; (with_reducible refine (lex_text.calls (bt a0 0) false _ A5.out).mono ?_); rintro e w' ⟨rfl, ⟨nd, rfl⟩⟩; refine ⟨_, rfl, ?_⟩))
    go_ret
    exact ⟨cl, d0⟩
  ·rw [if_neg c3] at H; exact absurd H (by simp)

end Go.Proofs.YtnnlhpmkfijppaaDoor.Fn
namespace Go.Proofs.YtnnlhpmkfijppaaDoor.Fn
open Go.RowKit Go.Proofs.YtnnlhpmkfijppaaDoorW.PrintWords Go.Proofs.YtnnlhpmkfijppaaDoorW.PrintLast Go.Proofs.YtnnlhpmkfijppaaDoorW.PrintMore
attribute [local go_sem] max2_int min2_int max_two min_two max_three min_three max_four min_four
set_option linter.unusedVariables false
set_option linter.unusedSimpArgs false

def lex_white.f (a0 : Int) : Option (Bool) := if a0 = 32 then (some true) else (some (a0 == 9))
set_option maxHeartbeats 8000000 in
set_option maxRecDepth 100000 in
theorem lex_white.calls (a0 : Int) (r : Bool) (w : World) (h : lex_white.f a0 = some r) :
  Calls Tryd.prog 51 #[.int .u8 a0] w fun e w' => e = .returned (.bool r) ∧ Drawn0 w w' := by
 have H : (if a0 = 32 then (some true) else (some (a0 == 9))) = some r := h; clear h
 by_cases c2 : a0 = 32
 ·rw [if_pos c2] at H; have c2b0 : (a0 == 32) = true := beq_iff_eq.mpr c2; have c2b1 : (a0 != 32) = false := bne_eq_false_iff_eq.mpr c2; clear c2; obtain rfl := Option.some.inj H
  go_enter Tryd.func51, Tryd.ntmps51
  go_wp2
  go_ret
  exact ⟨cl, d0⟩
 ·rw [if_neg c2] at H; have c2b0 : (a0 == 32) = false := beq_eq_false_iff_ne.mpr c2; have c2b1 : (a0 != 32) = true := bne_iff_ne.mpr c2; obtain rfl := Option.some.inj H
  go_enter Tryd.func51, Tryd.ntmps51
  go_wp2
  go_ret
  exact ⟨cl, d0⟩

end Go.Proofs.YtnnlhpmkfijppaaDoor.Fn
namespace Go.Proofs.YtnnlhpmkfijppaaDoor.Fn
open Go.RowKit Go.Proofs.YtnnlhpmkfijppaaDoorW.PrintWords Go.Proofs.YtnnlhpmkfijppaaDoorW.PrintLast Go.Proofs.YtnnlhpmkfijppaaDoorW.PrintMore
attribute [local go_sem] max2_int min2_int max_two min_two max_three min_three max_four min_four
set_option linter.unusedVariables false
set_option linter.unusedSimpArgs false

def lex_fold.f (a0 : ByteArray) : Option (Bool) := if (a0.size : Int) > 2 then (if 0 < (a0.size : Int) then (if (bt a0 0) = 13 then (if 1 < (a0.size : Int) then (if (bt a0 1) = 10 then (if 2 < (a0.size : Int) then ((lex_white.f (bt a0 2)).bind fun t202 => (some t202)) else (none)) else (some false)) else (none)) else (some false)) else (none)) else (some false)
set_option maxHeartbeats 8000000 in
set_option maxRecDepth 100000 in
theorem lex_fold.calls (a0 : ByteArray) (r : Bool) (w : World) (h : lex_fold.f a0 = some r) :
  Calls Tryd.prog 52 #[.string a0] w fun e w' => e = .returned (.bool r) ∧ Drawn0 w w' := by
 have H : (if (a0.size : Int) > 2 then (if 0 < (a0.size : Int) then (if (bt a0 0) = 13 then (if 1 < (a0.size : Int) then (if (bt a0 1) = 10 then (if 2 < (a0.size : Int) then ((lex_white.f (bt a0 2)).bind fun t202 => (some t202)) else (none)) else (some false)) else (none)) else (some false)) else (none)) else (some false)) = some r := h; clear h
 by_cases c2 : (a0.size : Int) > 2
 ·rw [if_pos c2] at H; have c2b0 : decide (2 < (a0.size : Int)) = true := decide_eq_true c2; have c2b1 : decide (2 < a0.size) = true := decide_eq_true (by omega); clear c2
  by_cases c3 : 0 < (a0.size : Int)
  ·rw [if_pos c3] at H; have c3b0 : decide (0 < (a0.size : Int)) = true := decide_eq_true c3; have c3b1 : decide (0 < a0.size) = true := decide_eq_true (by omega); clear c3
   by_cases c5 : (bt a0 0) = 13
   ·rw [if_pos c5] at H; have c5b0 : ((bt a0 0) == 13) = true := beq_iff_eq.mpr c5; have c5b1 : ((bt a0 0) != 13) = false := bne_eq_false_iff_eq.mpr c5; clear c5
    by_cases c6 : 1 < (a0.size : Int)
    ·rw [if_pos c6] at H; have c6b0 : decide (1 < (a0.size : Int)) = true := decide_eq_true c6; have c6b1 : decide (1 < a0.size) = true := decide_eq_true (by omega); clear c6
     by_cases c8 : (bt a0 1) = 10
     ·rw [if_pos c8] at H; have c8b0 : ((bt a0 1) == 10) = true := beq_iff_eq.mpr c8; have c8b1 : ((bt a0 1) != 10) = false := bne_eq_false_iff_eq.mpr c8; clear c8
      by_cases c9 : 2 < (a0.size : Int)
      ·rw [if_pos c9] at H; have c9b0 : decide (2 < (a0.size : Int)) = true := decide_eq_true c9; have c9b1 : decide (2 < a0.size) = true := decide_eq_true (by omega); clear c9; replace H := Option.bind_eq_some_iff.mp H; obtain ⟨t202, A110, H⟩ := H; replace H : (some t202) = some r := H; have A11 := Aside0.mk A110; clear A110; obtain rfl := Option.some.inj H; have p4 : 0 ≤ (0 : Int) := (by omega)
       have q4 : 0 < a0.size := (by have : (0 : Int) < (a0.size : Int) := od; omega)
       have hx4 : ∀ h : 0 < a0.size, ((a0[0]'h).toNat : Int) = bt a0 0 := bt_at a0 0; clear p4; have qi4 : (0 < (a0.size : Int)) = True := eq_true (od); replace q4 := eq_true q4; have p7 : 0 ≤ (1 : Int) := (by omega)
       have q7 : 1 < a0.size := (by have : (1 : Int) < (a0.size : Int) := od; omega)
       have hx7 : ∀ h : 1 < a0.size, ((a0[1]'h).toNat : Int) = bt a0 1 := bt_at a0 1; clear p7; have qi7 : (1 < (a0.size : Int)) = True := eq_true (od); replace q7 := eq_true q7; have p10 : 0 ≤ (2 : Int) := (by omega)
       have q10 : 2 < a0.size := (by have : (2 : Int) < (a0.size : Int) := od; omega)
       have hx10 : ∀ h : 2 < a0.size, ((a0[2]'h).toNat : Int) = bt a0 2 := bt_at a0 2; clear p10; have qi10 : (2 < (a0.size : Int)) = True := eq_true (od); replace q10 := eq_true q10
       go_enter Tryd.func52, Tryd.ntmps52
       go_wp2_with (first | (go_at_call 51; (with_reducible refine (lex_white.calls (bt a0 2) t202 _ A11.out).mono ?_); rintro e w' ⟨rfl, ⟨nd, rfl⟩⟩))
       go_ret
       exact ⟨cl, d0⟩
      ·rw [if_neg c9] at H; exact absurd H (by simp)
     ·rw [if_neg c8] at H; have c8b0 : ((bt a0 1) == 10) = false := beq_eq_false_iff_ne.mpr c8; have c8b1 : ((bt a0 1) != 10) = true := bne_iff_ne.mpr c8; obtain rfl := Option.some.inj H; have p4 : 0 ≤ (0 : Int) := (by omega)
      have q4 : 0 < a0.size := (by have : (0 : Int) < (a0.size : Int) := od; omega)
      have hx4 : ∀ h : 0 < a0.size, ((a0[0]'h).toNat : Int) = bt a0 0 := bt_at a0 0; clear p4; have qi4 : (0 < (a0.size : Int)) = True := eq_true (od); replace q4 := eq_true q4; have p7 : 0 ≤ (1 : Int) := (by omega)
      have q7 : 1 < a0.size := (by have : (1 : Int) < (a0.size : Int) := od; omega)
      have hx7 : ∀ h : 1 < a0.size, ((a0[1]'h).toNat : Int) = bt a0 1 := bt_at a0 1; clear p7; have qi7 : (1 < (a0.size : Int)) = True := eq_true (od); replace q7 := eq_true q7
      go_enter Tryd.func52, Tryd.ntmps52
      go_wp2
      go_ret
      exact ⟨cl, d0⟩
    ·rw [if_neg c6] at H; exact absurd H (by simp)
   ·rw [if_neg c5] at H; have c5b0 : ((bt a0 0) == 13) = false := beq_eq_false_iff_ne.mpr c5; have c5b1 : ((bt a0 0) != 13) = true := bne_iff_ne.mpr c5; obtain rfl := Option.some.inj H; have p4 : 0 ≤ (0 : Int) := (by omega)
    have q4 : 0 < a0.size := (by have : (0 : Int) < (a0.size : Int) := od; omega)
    have hx4 : ∀ h : 0 < a0.size, ((a0[0]'h).toNat : Int) = bt a0 0 := bt_at a0 0; clear p4; have qi4 : (0 < (a0.size : Int)) = True := eq_true (od); replace q4 := eq_true q4
    go_enter Tryd.func52, Tryd.ntmps52
    go_wp2
    go_ret
    exact ⟨cl, d0⟩
  ·rw [if_neg c3] at H; exact absurd H (by simp)
 ·rw [if_neg c2] at H; have c2b0 : decide (2 < (a0.size : Int)) = false := decide_eq_false c2; have c2b1 : decide (2 < a0.size) = false := decide_eq_false (by omega); clear c2; obtain rfl := Option.some.inj H
  go_enter Tryd.func52, Tryd.ntmps52
  go_wp2
  go_ret
  exact ⟨cl, d0⟩

end Go.Proofs.YtnnlhpmkfijppaaDoor.Fn
namespace Go.Proofs.YtnnlhpmkfijppaaDoor.Fn
open Go.RowKit Go.Proofs.YtnnlhpmkfijppaaDoorW.PrintWords Go.Proofs.YtnnlhpmkfijppaaDoorW.PrintLast Go.Proofs.YtnnlhpmkfijppaaDoorW.PrintMore
attribute [local go_sem] max2_int min2_int max_two min_two max_three min_three max_four min_four
set_option linter.unusedVariables false
set_option linter.unusedSimpArgs false

mutual
def lex_comment.l0 : Nat → ByteArray → Int → Int → Option (ByteArray × Int)
 | 0, _, _, _ => none
 | k + 1, x0, x4, x5 => if x5 < (x0.size : Int) then (if 0 ≤ x5 then (if x5 ≤ (x0.size : Int) then ((lex_fold.f (x0.extract (x5 : Int).toNat x0.size)).bind fun t204 => (if t204 = true then (lex_comment.l0 k x0 x4 (wrap64 ((wrap64 (x5 + 1)) + 1))) else (if (bt x0 x5) = 92 then (if 0 ≤ (wrap64 (x5 + 1)) then (if (wrap64 (x5 + 1)) ≤ (x0.size : Int) then ((lex_escaped.f (x0.extract ((wrap64 (x5 + 1)) : Int).toNat x0.size)).bind fun t205 => (if t205 = 0 then (lex_comment.l0 k x0 x4 (wrap64 ((wrap64 (x5 + 1)) + 1))) else (some ((⟨#[]⟩ : ByteArray), t205)))) else (none)) else (none)) else (if (bt x0 x5) = 40 then (lex_comment.j1 k x0 x4 x5 (bt x0 x5) (x4 == 16)) else (lex_comment.j1 k x0 x4 x5 (bt x0 x5) false))))) else (none)) else (none)) else (if x4 > 0 then (some ((⟨#[]⟩ : ByteArray), 9)) else (some (x0, 0)))
def lex_comment.j1 : Nat → ByteArray → Int → Int → Int → Bool → Option (ByteArray × Int)
 | 0, _, _, _, _, _ => none
 | k + 1, x0, x4, x5, x6, x36 => if x36 = true then (some ((⟨#[]⟩ : ByteArray), 1)) else (if x6 = 40 then (lex_comment.l0 k x0 (wrap64 (x4 + 1)) (wrap64 (x5 + 1))) else (if x6 = 41 then (lex_comment.j2 k x0 x4 x5 x6 (x4 == 1)) else (lex_comment.j2 k x0 x4 x5 x6 false)))
def lex_comment.j2 : Nat → ByteArray → Int → Int → Int → Bool → Option (ByteArray × Int)
 | 0, _, _, _, _, _ => none
 | k + 1, x0, x4, x5, x6, x48 => if x48 = true then (if 0 ≤ (wrap64 (x5 + 1)) then (if (wrap64 (x5 + 1)) ≤ (x0.size : Int) then (if 0 > 0 then (some ((⟨#[]⟩ : ByteArray), 9)) else (some (x0.extract ((wrap64 (x5 + 1)) : Int).toNat x0.size, 0))) else (none)) else (none)) else (if x6 = 41 then (lex_comment.l0 k x0 (wrap64 (x4 - 1)) (wrap64 (x5 + 1))) else ((lex_text.f x6).bind fun t206 => (if t206 = true then (lex_comment.l0 k x0 x4 (wrap64 (x5 + 1))) else (some ((⟨#[]⟩ : ByteArray), 3)))))
end
def lex_comment.f (k : Nat) (a0 : ByteArray) : Option (ByteArray × Int) := lex_comment.l0 k a0 0 0
theorem lex_comment.mono_l : ∀ k, (∀ y0 y1 y2, LeO (lex_comment.l0 k y0 y1 y2) (lex_comment.l0 (k + 1) y0 y1 y2)) ∧ (∀ y0 y1 y2 y3 y4, LeO (lex_comment.j1 k y0 y1 y2 y3 y4) (lex_comment.j1 (k + 1) y0 y1 y2 y3 y4)) ∧ (∀ y0 y1 y2 y3 y4, LeO (lex_comment.j2 k y0 y1 y2 y3 y4) (lex_comment.j2 (k + 1) y0 y1 y2 y3 y4))
 | 0 => ⟨fun _ _ _ r h => by simp [lex_comment.l0] at h, fun _ _ _ _ _ r h => by simp [lex_comment.j1] at h, fun _ _ _ _ _ r h => by simp [lex_comment.j2] at h⟩
 | k + 1 => by
  obtain ⟨ih0, ih1, ih2⟩ := lex_comment.mono_l k; refine ⟨?_, ?_, ?_⟩
  ·intro y0 y1 y2; unfold lex_comment.l0
   repeat' first
   | (with_reducible exact ih0 _ _ _)
   | (with_reducible exact ih1 _ _ _ _ _)
   | (with_reducible exact ih2 _ _ _ _ _)
   | (with_reducible exact LeO.refl _)
   | (with_reducible exact LeO.none _)
   | (with_reducible refine LeO.ite ?_ ?_)
   | (with_reducible refine LeO.bind ?_ (fun _ => ?_))
   | exact ih0 _ _ _
   | exact ih1 _ _ _ _ _
   | exact ih2 _ _ _ _ _
   | exact LeO.none _
   | refine LeO.ite ?_ ?_
   | refine LeO.bind ?_ (fun _ => ?_)
  ·intro y0 y1 y2 y3 y4; unfold lex_comment.j1
   repeat' first
   | (with_reducible exact ih0 _ _ _)
   | (with_reducible exact ih1 _ _ _ _ _)
   | (with_reducible exact ih2 _ _ _ _ _)
   | (with_reducible exact LeO.refl _)
   | (with_reducible exact LeO.none _)
   | (with_reducible refine LeO.ite ?_ ?_)
   | (with_reducible refine LeO.bind ?_ (fun _ => ?_))
   | exact ih0 _ _ _
   | exact ih1 _ _ _ _ _
   | exact ih2 _ _ _ _ _
   | exact LeO.none _
   | refine LeO.ite ?_ ?_
   | refine LeO.bind ?_ (fun _ => ?_)
  ·intro y0 y1 y2 y3 y4; unfold lex_comment.j2
   repeat' first
   | (with_reducible exact ih0 _ _ _)
   | (with_reducible exact ih1 _ _ _ _ _)
   | (with_reducible exact ih2 _ _ _ _ _)
   | (with_reducible exact LeO.refl _)
   | (with_reducible exact LeO.none _)
   | (with_reducible refine LeO.ite ?_ ?_)
   | (with_reducible refine LeO.bind ?_ (fun _ => ?_))
   | exact ih0 _ _ _
   | exact ih1 _ _ _ _ _
   | exact ih2 _ _ _ _ _
   | exact LeO.none _
   | refine LeO.ite ?_ ?_
   | refine LeO.bind ?_ (fun _ => ?_)
theorem lex_comment.mono : ∀ a0 k, LeO (lex_comment.f k a0) (lex_comment.f (k + 1) a0) := by
 intro a0 k; obtain ⟨ih0, ih1, ih2⟩ := lex_comment.mono_l k; unfold lex_comment.f
 repeat' first
   | (with_reducible exact ih0 _ _ _)
   | (with_reducible exact ih1 _ _ _ _ _)
   | (with_reducible exact ih2 _ _ _ _ _)
   | (with_reducible exact LeO.refl _)
   | (with_reducible exact LeO.none _)
   | (with_reducible refine LeO.ite ?_ ?_)
   | (with_reducible refine LeO.bind ?_ (fun _ => ?_))
   | exact ih0 _ _ _
   | exact ih1 _ _ _ _ _
   | exact ih2 _ _ _ _ _
   | exact LeO.none _
   | refine LeO.ite ?_ ?_
   | refine LeO.bind ?_ (fun _ => ?_)
set_option maxHeartbeats 8000000 in
set_option maxRecDepth 100000 in
theorem lex_comment.calls (k : Nat) (a0 : ByteArray) (r1 : ByteArray) (r2 : Int) (w : World) (h : lex_comment.f k a0 = some (r1, r2)) :
  Calls Tryd.prog 53 #[.string a0] w fun e w' => e = .returned (.tuple #[.string r1, .int .i64 r2]) ∧ Drawn0 w w' := by
 have H : (lex_comment.l0 k a0 0 0) = some (r1, r2) := h; clear h; have H' := Aside0.mk H; clear H
 go_enter Tryd.func53, Tryd.ntmps53
 go_wp2
 go_step3
 go_wp2
 go_step3
 go_wp2
 go_loopg [0, 4, 5] k (fun kq v0 v4 v5 w' => ∃ (x0_1 : ByteArray) (x4_1 : Int) (x5_1 : Int), v0 = .string x0_1 ∧ v4 = .int .i64 x4_1 ∧ v5 = .int .i64 x5_1 ∧ Aside0 (lex_comment.l0 kq x0_1 x4_1 x5_1 = some (r1, r2)) ∧ Aside0 (kq ≤ k) ∧ Drawn0 w w')
 case atStart => exact ⟨(a0), (0), (0), cl, cl, cl, H', ⟨Nat.le_refl _⟩, d0⟩
 case round =>
  clear H'; obtain ⟨x0_1, x4_1, x5_1, rfl, rfl, rfl, HA, HK1, ⟨m1, rfl⟩⟩ := hrel; cases gk with
  | zero => exact absurd HA.out (by simp [lex_comment.l0])
  | succ k1 =>
   have H := HA.out; clear HA; simp only [lex_comment.l0] at H
   by_cases c2 : x5_1 < (x0_1.size : Int)
   ·rw [if_pos c2] at H; have c2b0 : decide (x5_1 < (x0_1.size : Int)) = true := decide_eq_true c2; clear c2
    by_cases c3 : 0 ≤ x5_1
    ·rw [if_pos c3] at H; have c3b0 : decide (0 ≤ x5_1) = true := decide_eq_true c3; clear c3; have c5b0 := eq_true (od : 0 ≤ x5_1)
     by_cases c6 : x5_1 ≤ (x0_1.size : Int)
     ·rw [if_pos c6] at H; have c6b0 := eq_true c6; have c6b1 : decide (x5_1 ≤ (x0_1.size : Int)) = true := decide_eq_true c6; clear c6; replace H := Option.bind_eq_some_iff.mp H; obtain ⟨t204, A70, H⟩ := H; replace H : (if t204 = true then (lex_comment.l0 k1 x0_1 x4_1 (wrap64 ((wrap64 (x5_1 + 1)) + 1))) else (if (bt x0_1 x5_1) = 92 then (if 0 ≤ (wrap64 (x5_1 + 1)) then (if (wrap64 (x5_1 + 1)) ≤ (x0_1.size : Int) then ((lex_escaped.f (x0_1.extract ((wrap64 (x5_1 + 1)) : Int).toNat x0_1.size)).bind fun t205 => (if t205 = 0 then (lex_comment.l0 k1 x0_1 x4_1 (wrap64 ((wrap64 (x5_1 + 1)) + 1))) else (some ((⟨#[]⟩ : ByteArray), t205)))) else (none)) else (none)) else (if (bt x0_1 x5_1) = 40 then (lex_comment.j1 k1 x0_1 x4_1 x5_1 (bt x0_1 x5_1) (x4_1 == 16)) else (lex_comment.j1 k1 x0_1 x4_1 x5_1 (bt x0_1 x5_1) false)))) = some (r1, r2) := H; have A7 := Aside0.mk A70; clear A70
      by_cases c8 : t204 = true
      ·subst c8; have H1 : (lex_comment.l0 k1 x0_1 x4_1 (wrap64 ((wrap64 (x5_1 + 1)) + 1))) = some (r1, r2) := by rw [if_pos rfl] at H; exact H
       clear H; have H := H1; clear H1; have H' := Aside0.mk H; clear H; have p4 : 0 ≤ (x5_1 : Int) := od; have q4 : x5_1 < (x0_1.size : Int) := od; have hx4 := bt_at x0_1 x5_1; replace p4 := eq_true p4; replace q4 := eq_true q4
       go_wp2_with (first | ((with_reducible refine gate_callee (f := 52) rfl ?_); refine goesL_ (some 21) rfl rfl Tryd.func52 (by kernel_rfl) rfl #[.string (x0_1.extract (x5_1 : Int).toNat x0_1.size)] rfl am ?_; (with_reducible refine (lex_fold.calls (x0_1.extract (x5_1 : Int).toNat x0_1.size) true _ A7.out).mono ?_); rintro e w' ⟨rfl, ⟨nd, rfl⟩⟩; refine ⟨_, rfl, ?_⟩))
       go_roundg k1
       case measure => have := HK1.out; omega
       case rel => exact ⟨(x0_1), (x4_1), (wrap64 ((wrap64 (x5_1 + 1)) + 1)), cl, cl, cl, H', ⟨by have := HK1.out; omega⟩, d0⟩
      ·replace c8 := Bool.eq_false_iff.mpr c8; subst c8; have H1 : (if (bt x0_1 x5_1) = 92 then (if 0 ≤ (wrap64 (x5_1 + 1)) then (if (wrap64 (x5_1 + 1)) ≤ (x0_1.size : Int) then ((lex_escaped.f (x0_1.extract ((wrap64 (x5_1 + 1)) : Int).toNat x0_1.size)).bind fun t205 => (if t205 = 0 then (lex_comment.l0 k1 x0_1 x4_1 (wrap64 ((wrap64 (x5_1 + 1)) + 1))) else (some ((⟨#[]⟩ : ByteArray), t205)))) else (none)) else (none)) else (if (bt x0_1 x5_1) = 40 then (lex_comment.j1 k1 x0_1 x4_1 x5_1 (bt x0_1 x5_1) (x4_1 == 16)) else (lex_comment.j1 k1 x0_1 x4_1 x5_1 (bt x0_1 x5_1) false))) = some (r1, r2) := by rw [if_neg (show ¬ (false = true) by decide)] at H; exact H
       clear H; have H := H1; clear H1
       by_cases c9 : (bt x0_1 x5_1) = 92
       ·rw [if_pos c9] at H; have c9b0 : ((bt x0_1 x5_1) == 92) = true := beq_iff_eq.mpr c9; have c9b1 : ((bt x0_1 x5_1) != 92) = false := bne_eq_false_iff_eq.mpr c9; clear c9; obtain ⟨ji10, hji10⟩ : ∃ j_ : Int, (wrap64 (x5_1 + 1)) = j_ := ⟨_, rfl⟩
        replace H : (if 0 ≤ (ji10) then (if (ji10) ≤ (x0_1.size : Int) then ((lex_escaped.f (x0_1.extract ((ji10) : Int).toNat x0_1.size)).bind fun t205 => (if t205 = 0 then (lex_comment.l0 k1 x0_1 x4_1 (wrap64 ((ji10) + 1))) else (some ((⟨#[]⟩ : ByteArray), t205)))) else (none)) else (none)) = some (r1, r2) := by first | (rw [hji10] at H; exact H) | (simp only [hji10] at H ⊢; exact H)
        (try rw [hji10] at A7)
        have hji10w : (IntKind.i64.wrap (x5_1 + 1)) = ji10 := (i64_w _).trans hji10
        by_cases c11 : 0 ≤ (ji10)
        ·rw [if_pos c11] at H; have c11b0 := eq_true c11; have c11b1 : decide (0 ≤ (ji10)) = true := decide_eq_true c11; clear c11
         by_cases c12 : (ji10) ≤ (x0_1.size : Int)
         ·rw [if_pos c12] at H; have c12b0 := eq_true c12; have c12b1 : decide ((ji10) ≤ (x0_1.size : Int)) = true := decide_eq_true c12; clear c12; replace H := Option.bind_eq_some_iff.mp H; obtain ⟨t205, A130, H⟩ := H; replace H : (if t205 = 0 then (lex_comment.l0 k1 x0_1 x4_1 (wrap64 ((ji10) + 1))) else (some ((⟨#[]⟩ : ByteArray), t205))) = some (r1, r2) := H; have A13 := Aside0.mk A130; clear A130
          by_cases c14 : t205 = 0
          ·rw [if_pos c14] at H; have c14b0 : (t205 == 0) = true := beq_iff_eq.mpr c14; have c14b1 : (t205 != 0) = false := bne_eq_false_iff_eq.mpr c14; clear c14; have H' := Aside0.mk H; clear H; have p4 : 0 ≤ (x5_1 : Int) := od; have q4 : x5_1 < (x0_1.size : Int) := od; have hx4 := bt_at x0_1 x5_1; replace p4 := eq_true p4; replace q4 := eq_true q4
           go_wp2_with (first | ((with_reducible refine gate_callee (f := 52) rfl ?_); refine goesL_ (some 21) rfl rfl Tryd.func52 (by kernel_rfl) rfl #[.string (x0_1.extract (x5_1 : Int).toNat x0_1.size)] rfl am ?_; (with_reducible refine (lex_fold.calls (x0_1.extract (x5_1 : Int).toNat x0_1.size) false _ A7.out).mono ?_); rintro e w' ⟨rfl, ⟨nd, rfl⟩⟩; refine ⟨_, rfl, ?_⟩) | ((with_reducible refine gate_callee (f := 66) rfl ?_); refine goesL_ (some 32) rfl rfl Tryd.func66 (by kernel_rfl) rfl #[.string (x0_1.extract ((ji10) : Int).toNat x0_1.size)] rfl (by (try simp only [List.map_toArray, List.map_cons, List.map_nil]); first | done | (simp only [hji10]; rfl) | rfl | (simp only [List.length_drop, List.length_take]; rfl)) ?_; (with_reducible refine (lex_escaped.calls (x0_1.extract ((ji10) : Int).toNat x0_1.size) t205 _ A13.out).mono ?_); rintro e w' ⟨rfl, ⟨nd, rfl⟩⟩; refine ⟨_, rfl, ?_⟩))
           go_roundg k1
           case measure => have := HK1.out; omega
           case rel => exact ⟨(x0_1), (x4_1), (wrap64 ((ji10) + 1)), cl, cl, (by first | rfl | (simp; done) | (simp only [← hji10] <;> (first | rfl | simp)) | (simp [*]; done) | (simp [nil_ne]; done) | (simp [u8_w, i64w_]; done) | (simp [size_lit]; done) | (simp; unfold wrap64; omega)), H', ⟨by have := HK1.out; omega⟩, d0⟩
          ·rw [if_neg c14] at H; have c14b0 : (t205 == 0) = false := beq_eq_false_iff_ne.mpr c14; have c14b1 : (t205 != 0) = true := bne_iff_ne.mpr c14; simp only [Option.some.injEq, Prod.mk.injEq] at H; obtain ⟨rfl, rfl⟩ := H; have p4 : 0 ≤ (x5_1 : Int) := od; have q4 : x5_1 < (x0_1.size : Int) := od; have hx4 := bt_at x0_1 x5_1; replace p4 := eq_true p4; replace q4 := eq_true q4
           go_wp2_with (first | ((with_reducible refine gate_callee (f := 52) rfl ?_); refine goesL_ (some 21) rfl rfl Tryd.func52 (by kernel_rfl) rfl #[.string (x0_1.extract (x5_1 : Int).toNat x0_1.size)] rfl am ?_; (with_reducible refine (lex_fold.calls (x0_1.extract (x5_1 : Int).toNat x0_1.size) false _ A7.out).mono ?_); rintro e w' ⟨rfl, ⟨nd, rfl⟩⟩; refine ⟨_, rfl, ?_⟩) | ((with_reducible refine gate_callee (f := 66) rfl ?_); refine goesL_ (some 32) rfl rfl Tryd.func66 (by kernel_rfl) rfl #[.string (x0_1.extract ((ji10) : Int).toNat x0_1.size)] rfl (by (try simp only [List.map_toArray, List.map_cons, List.map_nil]); first | done | (simp only [hji10]; rfl) | rfl | (simp only [List.length_drop, List.length_take]; rfl)) ?_; (with_reducible refine (lex_escaped.calls (x0_1.extract ((ji10) : Int).toNat x0_1.size) t205 _ A13.out).mono ?_); rintro e w' ⟨rfl, ⟨nd, rfl⟩⟩; refine ⟨_, rfl, ?_⟩))
           (try rw [Exit.noGoto_ret])
           go_ret2
           exact ⟨by first | rfl | (simp; done) | (simp only [← hji10] <;> (first | rfl | simp)) | (simp [*]; done) | (simp [nil_ne]; done) | (simp [u8_w, i64w_]; done) | (simp [size_lit]; done) | (simp; unfold wrap64; omega), d0⟩
         ·rw [if_neg c12] at H; exact absurd H (by simp)
        ·rw [if_neg c11] at H; exact absurd H (by simp)
       ·rw [if_neg c9] at H; have c9b0 : ((bt x0_1 x5_1) == 92) = false := beq_eq_false_iff_ne.mpr c9; have c9b1 : ((bt x0_1 x5_1) != 92) = true := bne_iff_ne.mpr c9; have HC15 := Aside0.mk H; clear H; have p4 : 0 ≤ (x5_1 : Int) := od; have q4 : x5_1 < (x0_1.size : Int) := od; have hx4 := bt_at x0_1 x5_1; replace p4 := eq_true p4; replace q4 := eq_true q4
        go_upto_region 13 with (first | ((with_reducible refine gate_callee (f := 52) rfl ?_); refine goesL_ (some 21) rfl rfl Tryd.func52 (by kernel_rfl) rfl #[.string (x0_1.extract (x5_1 : Int).toNat x0_1.size)] rfl am ?_; (with_reducible refine (lex_fold.calls (x0_1.extract (x5_1 : Int).toNat x0_1.size) false _ A7.out).mono ?_); rintro e w' ⟨rfl, ⟨nd, rfl⟩⟩; refine ⟨_, rfl, ?_⟩))
        (try simp only [Act.put, List.setIfInBounds_toArray, List.set_cons_zero, List.set_cons_succ])
        go_cut [36] (fun v36 wc => ∃ (kq : Nat) (x36_14 : Bool), v36 = .bool x36_14 ∧ Aside0 (lex_comment.j1 kq x0_1 x4_1 x5_1 (bt x0_1 x5_1) x36_14 = some (r1, r2)) ∧ Aside0 (kq ≤ k1) ∧ Drawn0 w wc)
        case first =>
         have H := HC15.out; clear HC15
         by_cases c16 : (bt x0_1 x5_1) = 40
         ·rw [if_pos c16] at H; have c16b0 : ((bt x0_1 x5_1) == 40) = true := beq_iff_eq.mpr c16; have c16b1 : ((bt x0_1 x5_1) != 40) = false := bne_eq_false_iff_eq.mpr c16; clear c16
          (first | rw [c16b0] | (simp only [i64_w, i32_w]; rw [c16b0]) | skip)
          have H' := Aside0.mk H; clear H
          go_wp2
          go_meet
          case rel => exact ⟨_, ((x4_1 == 16)), cl, H', ⟨by have := HK1.out; first | omega | exact Nat.le_refl _⟩, d0⟩
         ·rw [if_neg c16] at H; have c16b0 : ((bt x0_1 x5_1) == 40) = false := beq_eq_false_iff_ne.mpr c16; have c16b1 : ((bt x0_1 x5_1) != 40) = true := bne_iff_ne.mpr c16
          (first | rw [c16b0] | (simp only [i64_w, i32_w]; rw [c16b0]) | skip)
          have H' := Aside0.mk H; clear H
          go_wp2
          go_meet
          case rel => exact ⟨_, (false), cl, H', ⟨by have := HK1.out; first | omega | exact Nat.le_refl _⟩, d0⟩
        case rest =>
         clear HC15
         try clear c1
         try clear c2
         try clear c2b0
         try clear p2
         try clear c3
         try clear c3b0
         try clear p4
         try clear q4
         try clear hx4
         try clear c5
         try clear c5b0
         try clear c6
         try clear c6b0
         try clear c6b1
         try clear p6
         try clear c8
         try clear c9
         try clear c9b0
         try clear c9b1
         try clear c11
         try clear c11b0
         try clear c11b1
         try clear c12
         try clear c12b0
         try clear c12b1
         try clear c14
         try clear c14b0
         try clear c14b1
         try clear c16
         try clear c16b0
         try clear c16b1
         try clear p4
         try clear q4
         obtain ⟨kq, x36_14, rfl, HA, HJ14, ⟨mc14, rfl⟩⟩ := hcut; cases kq with
         | zero => exact absurd HA.out (by simp [lex_comment.j1])
         | succ kj14 =>
          have H := HA.out; clear HA; simp only [lex_comment.j1] at H
          by_cases c17 : x36_14 = true
          ·subst c17; have H1 : (some ((⟨#[]⟩ : ByteArray), 1)) = some (r1, r2) := by rw [if_pos rfl] at H; exact H
           clear H; have H := H1; clear H1; simp only [Option.some.injEq, Prod.mk.injEq] at H; obtain ⟨rfl, rfl⟩ := H
           go_wp2
           (try rw [Exit.noGoto_ret])
           go_ret2
           exact ⟨cl, d0⟩
          ·replace c17 := Bool.eq_false_iff.mpr c17; subst c17; have H1 : (if (bt x0_1 x5_1) = 40 then (lex_comment.l0 kj14 x0_1 (wrap64 (x4_1 + 1)) (wrap64 (x5_1 + 1))) else (if (bt x0_1 x5_1) = 41 then (lex_comment.j2 kj14 x0_1 x4_1 x5_1 (bt x0_1 x5_1) (x4_1 == 1)) else (lex_comment.j2 kj14 x0_1 x4_1 x5_1 (bt x0_1 x5_1) false))) = some (r1, r2) := by rw [if_neg (show ¬ (false = true) by decide)] at H; exact H
           clear H; have H := H1; clear H1
           by_cases c18 : (bt x0_1 x5_1) = 40
           ·rw [if_pos c18] at H; have c18b0 : ((bt x0_1 x5_1) == 40) = true := beq_iff_eq.mpr c18; have c18b1 : ((bt x0_1 x5_1) != 40) = false := bne_eq_false_iff_eq.mpr c18; clear c18; have H' := Aside0.mk H; clear H
            go_wp2
            go_roundg kj14
            case measure => have := HK1.out; have := HJ14.out; omega
            case rel => exact ⟨(x0_1), (wrap64 (x4_1 + 1)), (wrap64 (x5_1 + 1)), cl, cl, cl, H', ⟨by have := HK1.out; have := HJ14.out; omega⟩, d0⟩
           ·rw [if_neg c18] at H; have c18b0 : ((bt x0_1 x5_1) == 40) = false := beq_eq_false_iff_ne.mpr c18; have c18b1 : ((bt x0_1 x5_1) != 40) = true := bne_iff_ne.mpr c18; have HC19 := Aside0.mk H; clear H
            go_upto_region 17 with (fail)
            go_cut [48] (fun v48 wc => ∃ (kq : Nat) (x48_18 : Bool), v48 = .bool x48_18 ∧ Aside0 (lex_comment.j2 kq x0_1 x4_1 x5_1 (bt x0_1 x5_1) x48_18 = some (r1, r2)) ∧ Aside0 (kq ≤ kj14) ∧ Drawn0 w wc)
            case first =>
             have H := HC19.out; clear HC19
             by_cases c20 : (bt x0_1 x5_1) = 41
             ·rw [if_pos c20] at H; have c20b0 : ((bt x0_1 x5_1) == 41) = true := beq_iff_eq.mpr c20; have c20b1 : ((bt x0_1 x5_1) != 41) = false := bne_eq_false_iff_eq.mpr c20; clear c20
              (first | rw [c20b0] | (simp only [i64_w, i32_w]; rw [c20b0]) | skip)
              have H' := Aside0.mk H; clear H
              go_wp2
              go_meet
              case rel => exact ⟨_, ((x4_1 == 1)), cl, H', ⟨by have := HK1.out; have := HJ14.out; first | omega | exact Nat.le_refl _⟩, d0⟩
             ·rw [if_neg c20] at H; have c20b0 : ((bt x0_1 x5_1) == 41) = false := beq_eq_false_iff_ne.mpr c20; have c20b1 : ((bt x0_1 x5_1) != 41) = true := bne_iff_ne.mpr c20
              (first | rw [c20b0] | (simp only [i64_w, i32_w]; rw [c20b0]) | skip)
              have H' := Aside0.mk H; clear H
              go_wp2
              go_meet
              case rel => exact ⟨_, (false), cl, H', ⟨by have := HK1.out; have := HJ14.out; first | omega | exact Nat.le_refl _⟩, d0⟩
            case rest =>
             clear HC19
             try clear c1
             try clear c2
             try clear c2b0
             try clear p2
             try clear c3
             try clear c3b0
             try clear p4
             try clear q4
             try clear hx4
             try clear c5
             try clear c5b0
             try clear c6
             try clear c6b0
             try clear c6b1
             try clear p6
             try clear c8
             try clear c9
             try clear c9b0
             try clear c9b1
             try clear c11
             try clear c11b0
             try clear c11b1
             try clear c12
             try clear c12b0
             try clear c12b1
             try clear c14
             try clear c14b0
             try clear c14b1
             try clear c16
             try clear c16b0
             try clear c16b1
             try clear c17
             try clear c18
             try clear c18b0
             try clear c18b1
             try clear c20
             try clear c20b0
             try clear c20b1
             try clear p2
             try clear p4
             try clear p6
             try clear q4
             obtain ⟨kq, x48_18, rfl, HA, HJ18, ⟨mc18, rfl⟩⟩ := hcut; cases kq with
             | zero => exact absurd HA.out (by simp [lex_comment.j2])
             | succ kj18 =>
              have H := HA.out; clear HA; simp only [lex_comment.j2] at H
              by_cases c21 : x48_18 = true
              ·subst c21; have H1 : (if 0 ≤ (wrap64 (x5_1 + 1)) then (if (wrap64 (x5_1 + 1)) ≤ (x0_1.size : Int) then (if 0 > 0 then (some ((⟨#[]⟩ : ByteArray), 9)) else (some (x0_1.extract ((wrap64 (x5_1 + 1)) : Int).toNat x0_1.size, 0))) else (none)) else (none)) = some (r1, r2) := by rw [if_pos rfl] at H; exact H
               clear H; have H := H1; clear H1; obtain ⟨ji22, hji22⟩ : ∃ j_ : Int, (wrap64 (x5_1 + 1)) = j_ := ⟨_, rfl⟩
               replace H : (if 0 ≤ (ji22) then (if (ji22) ≤ (x0_1.size : Int) then (if 0 > 0 then (some ((⟨#[]⟩ : ByteArray), 9)) else (some (x0_1.extract ((ji22) : Int).toNat x0_1.size, 0))) else (none)) else (none)) = some (r1, r2) := by first | (rw [hji22] at H; exact H) | (simp only [hji22] at H ⊢; exact H)
               have hji22w : (IntKind.i64.wrap (x5_1 + 1)) = ji22 := (i64_w _).trans hji22
               by_cases c23 : 0 ≤ (ji22)
               ·rw [if_pos c23] at H; have c23b0 := eq_true c23; have c23b1 : decide (0 ≤ (ji22)) = true := decide_eq_true c23; clear c23
                by_cases c24 : (ji22) ≤ (x0_1.size : Int)
                ·rw [if_pos c24] at H; have c24b0 := eq_true c24; have c24b1 : decide ((ji22) ≤ (x0_1.size : Int)) = true := decide_eq_true c24; clear c24
                 by_cases c25 : 0 > 0
                 ·exact absurd c25 (by decide)
                 ·rw [if_neg c25] at H; have c25b0 : decide (0 < 0) = false := decide_eq_false c25; clear c25; simp only [Option.some.injEq, Prod.mk.injEq] at H; obtain ⟨rfl, rfl⟩ := H
                  go_wp2
                  (try rw [Exit.noGoto_ret])
                  go_ret2
                  exact ⟨by first | rfl | (simp; done) | (simp only [← hji22] <;> (first | rfl | simp)) | (simp [*]; done) | (simp [nil_ne]; done) | (simp [u8_w, i64w_]; done) | (simp [size_lit]; done) | (simp; unfold wrap64; omega), d0⟩
                ·rw [if_neg c24] at H; exact absurd H (by simp)
               ·rw [if_neg c23] at H; exact absurd H (by simp)
              ·replace c21 := Bool.eq_false_iff.mpr c21; subst c21; have H1 : (if (bt x0_1 x5_1) = 41 then (lex_comment.l0 kj18 x0_1 (wrap64 (x4_1 - 1)) (wrap64 (x5_1 + 1))) else ((lex_text.f (bt x0_1 x5_1)).bind fun t206 => (if t206 = true then (lex_comment.l0 kj18 x0_1 x4_1 (wrap64 (x5_1 + 1))) else (some ((⟨#[]⟩ : ByteArray), 3))))) = some (r1, r2) := by rw [if_neg (show ¬ (false = true) by decide)] at H; exact H
               clear H; have H := H1; clear H1
               by_cases c26 : (bt x0_1 x5_1) = 41
               ·rw [if_pos c26] at H; have c26b0 : ((bt x0_1 x5_1) == 41) = true := beq_iff_eq.mpr c26; have c26b1 : ((bt x0_1 x5_1) != 41) = false := bne_eq_false_iff_eq.mpr c26; clear c26; have H' := Aside0.mk H; clear H
                go_wp2
                go_roundg kj18
                case measure => have := HK1.out; have := HJ14.out; have := HJ18.out; omega
                case rel => exact ⟨(x0_1), (wrap64 (x4_1 - 1)), (wrap64 (x5_1 + 1)), cl, cl, cl, H', ⟨by have := HK1.out; have := HJ14.out; have := HJ18.out; omega⟩, d0⟩
               ·rw [if_neg c26] at H; have c26b0 : ((bt x0_1 x5_1) == 41) = false := beq_eq_false_iff_ne.mpr c26; have c26b1 : ((bt x0_1 x5_1) != 41) = true := bne_iff_ne.mpr c26; replace H := Option.bind_eq_some_iff.mp H; obtain ⟨t206, A270, H⟩ := H; replace H : (if t206 = true then (lex_comment.l0 kj18 x0_1 x4_1 (wrap64 (x5_1 + 1))) else (some ((⟨#[]⟩ : ByteArray), 3))) = some (r1, r2) := H; have A27 := Aside0.mk A270; clear A270
                by_cases c28 : t206 = true
                ·subst c28; have H1 : (lex_comment.l0 kj18 x0_1 x4_1 (wrap64 (x5_1 + 1))) = some (r1, r2) := by rw [if_pos rfl] at H; exact H
                 clear H; have H := H1; clear H1; have H' := Aside0.mk H; clear H
                 go_wp2_with (first | ((with_reducible refine gate_callee (f := 45) rfl ?_); refine goesL_ (some 66) rfl rfl Tryd.func45 (by kernel_rfl) rfl #[.int .u8 (bt x0_1 x5_1)] rfl am ?_; (with_reducible refine (lex_text.calls (bt x0_1 x5_1) true _ A27.out).mono ?_); rintro e w' ⟨rfl, ⟨nd, rfl⟩⟩; refine ⟨_, rfl, ?_⟩))
                 go_roundg kj18
                 case measure => have := HK1.out; have := HJ14.out; have := HJ18.out; omega
                 case rel => exact ⟨(x0_1), (x4_1), (wrap64 (x5_1 + 1)), cl, cl, cl, H', ⟨by have := HK1.out; have := HJ14.out; have := HJ18.out; omega⟩, d0⟩
                ·replace c28 := Bool.eq_false_iff.mpr c28; subst c28; have H1 : (some ((⟨#[]⟩ : ByteArray), 3)) = some (r1, r2) := by rw [if_neg (show ¬ (false = true) by decide)] at H; exact H
                 clear H; have H := H1; clear H1; simp only [Option.some.injEq, Prod.mk.injEq] at H; obtain ⟨rfl, rfl⟩ := H
                 go_wp2_with (first | ((with_reducible refine gate_callee (f := 45) rfl ?_); refine goesL_ (some 66) rfl rfl Tryd.func45 (by kernel_rfl) rfl #[.int .u8 (bt x0_1 x5_1)] rfl am ?_; (with_reducible refine (lex_text.calls (bt x0_1 x5_1) false _ A27.out).mono ?_); rintro e w' ⟨rfl, ⟨nd, rfl⟩⟩; refine ⟨_, rfl, ?_⟩))
                 (try rw [Exit.noGoto_ret])
                 go_ret2
                 exact ⟨cl, d0⟩
     ·rw [if_neg c6] at H; exact absurd H (by simp)
    ·rw [if_neg c3] at H; exact absurd H (by simp)
   ·rw [if_neg c2] at H; have c2b0 : decide (x5_1 < (x0_1.size : Int)) = false := decide_eq_false c2; clear c2
    by_cases c29 : x4_1 > 0
    ·rw [if_pos c29] at H; have c29b0 : decide (0 < x4_1) = true := decide_eq_true c29; clear c29; simp only [Option.some.injEq, Prod.mk.injEq] at H; obtain ⟨rfl, rfl⟩ := H
     go_wp2
     (try rw [Exit.noGoto_ret])
     go_ret2
     exact ⟨cl, d0⟩
    ·rw [if_neg c29] at H; have c29b0 : decide (0 < x4_1) = false := decide_eq_false c29; clear c29; simp only [Option.some.injEq, Prod.mk.injEq] at H; obtain ⟨rfl, rfl⟩ := H
     go_wp2
     (try rw [Exit.noGoto_ret])
     go_ret2
     exact ⟨cl, d0⟩

end Go.Proofs.YtnnlhpmkfijppaaDoor.Fn
namespace Go.Proofs.YtnnlhpmkfijppaaDoor.Fn
open Go.RowKit Go.Proofs.YtnnlhpmkfijppaaDoorW.PrintWords Go.Proofs.YtnnlhpmkfijppaaDoorW.PrintLast Go.Proofs.YtnnlhpmkfijppaaDoorW.PrintMore
attribute [local go_sem] max2_int min2_int max_two min_two max_three min_three max_four min_four
set_option linter.unusedVariables false
set_option linter.unusedSimpArgs false

def lex_quoted.l0 : Nat → ByteArray → List Int → Int → Option (Int × ByteArray × ByteArray × Int)
 | 0, _, _, _ => none
 | k + 1, x0, x5, x6 => if x6 < (x0.size : Int) then (if 0 ≤ x6 then (if x6 ≤ (x0.size : Int) then ((lex_fold.f (x0.extract (x6 : Int).toNat x0.size)).bind fun t208 => (if t208 = true then (lex_quoted.l0 k x0 x5 (wrap64 ((wrap64 (x6 + 1)) + 1))) else (if (bt x0 x6) = 92 then (if 0 ≤ (wrap64 (x6 + 1)) then (if (wrap64 (x6 + 1)) ≤ (x0.size : Int) then ((lex_escaped.f (x0.extract ((wrap64 (x6 + 1)) : Int).toNat x0.size)).bind fun t209 => (if t209 = 0 then (if (wrap64 (x6 + 1)) < (x0.size : Int) then (if x5.length < 140737488355328 then (lex_quoted.l0 k x0 (x5 ++ [bt x0 (wrap64 (x6 + 1))]) (wrap64 ((wrap64 (x6 + 1)) + 1))) else (none)) else (none)) else (some (0, (⟨#[]⟩ : ByteArray), (⟨#[]⟩ : ByteArray), t209)))) else (none)) else (none)) else (if (bt x0 x6) = 34 then (if 0 ≤ (wrap64 (x6 + 1)) then (if (wrap64 (x6 + 1)) ≤ (x0.size : Int) then (some (2, strOfNums x5, x0.extract ((wrap64 (x6 + 1)) : Int).toNat x0.size, 0)) else (none)) else (none)) else ((lex_text.f (bt x0 x6)).bind fun t213 => (if t213 = true then (if x5.length < 140737488355328 then (lex_quoted.l0 k x0 (x5 ++ [bt x0 x6]) (wrap64 (x6 + 1))) else (none)) else (some (0, (⟨#[]⟩ : ByteArray), (⟨#[]⟩ : ByteArray), 3)))))))) else (none)) else (none)) else (some (0, (⟨#[]⟩ : ByteArray), (⟨#[]⟩ : ByteArray), 9))
def lex_quoted.f (k : Nat) (a0 : ByteArray) : Option (Int × ByteArray × ByteArray × Int) := lex_quoted.l0 k a0 ([] : List Int) 1
theorem lex_quoted.mono_l : ∀ k, (∀ y0 y1 y2, LeO (lex_quoted.l0 k y0 y1 y2) (lex_quoted.l0 (k + 1) y0 y1 y2))
 | 0 => fun _ _ _ r h => by simp [lex_quoted.l0] at h
 | k + 1 => by
  have ih0 := lex_quoted.mono_l k
  ·intro y0 y1 y2; unfold lex_quoted.l0
   repeat' first
   | (with_reducible exact ih0 _ _ _)
   | (with_reducible exact LeO.refl _)
   | (with_reducible exact LeO.none _)
   | (with_reducible refine LeO.ite ?_ ?_)
   | (with_reducible refine LeO.bind ?_ (fun _ => ?_))
   | exact ih0 _ _ _
   | exact LeO.none _
   | refine LeO.ite ?_ ?_
   | refine LeO.bind ?_ (fun _ => ?_)
theorem lex_quoted.mono : ∀ a0 k, LeO (lex_quoted.f k a0) (lex_quoted.f (k + 1) a0) := by
 intro a0 k; have ih0 := lex_quoted.mono_l k; unfold lex_quoted.f
 repeat' first
   | (with_reducible exact ih0 _ _ _)
   | (with_reducible exact LeO.refl _)
   | (with_reducible exact LeO.none _)
   | (with_reducible refine LeO.ite ?_ ?_)
   | (with_reducible refine LeO.bind ?_ (fun _ => ?_))
   | exact ih0 _ _ _
   | exact LeO.none _
   | refine LeO.ite ?_ ?_
   | refine LeO.bind ?_ (fun _ => ?_)
def lex_quoted.T16 : Bool × List (List Nat × List Nat) := (true, [([], []), ([0], [0]), ([1], [1]), ([], []), ([], []), ([4], [4]), ([3, 5], [3, 5]), ([2, 0, 1, 2], [2]), ([6, 7, 0, 1, 2, 3, 4, 5, 6, 7], [6]), ([8, 0, 1, 2, 3, 4, 5, 6, 7, 8], [])])
def lex_quoted.B16 : List Nat := [0, 1, 3, 0, 0, 16, 56, 7, 255, 511]
theorem lex_quoted.tab16 : rtab .any (opsOf Tryd.f54 16) = lex_quoted.T16 := by kernel_rfl
theorem lex_quoted.bits16 : waitsOk lex_quoted.T16.2 lex_quoted.B16 = true := by kernel_rfl
set_option maxHeartbeats 8000000 in
set_option maxRecDepth 100000 in
theorem lex_quoted.calls (k : Nat) (a0 : ByteArray) (r1 : Int) (r2 : ByteArray) (r3 : ByteArray) (r4 : Int) (w : World) (h : lex_quoted.f k a0 = some (r1, r2, r3, r4)) :
  Calls Tryd.prog 54 #[.string a0] w fun e w' => e = .returned (.tuple #[.agg #[.int .i64 r1, .string r2], .string r3, .int .i64 r4]) ∧ Below w.heap.size w w' := by
 have hu71 := Tryd.underlying71; have HB := Aside0.mk (Below.refl w.heap.size w); have H : (lex_quoted.l0 k a0 ([] : List Int) 1) = some (r1, r2, r3, r4) := h; clear h; have H' := Aside0.mk H; clear H
 go_enter Tryd.func54, Tryd.ntmps54
 go_wp2_with (first | ((with_reducible refine gate_dst (N := 2) rfl ?_); refine box_event ?hg (N := 2) ?hd (cs := #[.int .i64 0, .string (⟨#[]⟩ : ByteArray)]) (t := 71) ?hr ?_; (case hd => rfl); (case hg => rfl); (case hr => first | (go_simp; done) | (go_simp; rfl)); intro gb207 hg w2 hbox hb; have n0_ := Aside0.mk (below_step bw hb); have n1_ := Aside0.mk (hbox); have n2_ := Aside0.mk ((by rw [hg]; exact (below_size bw) : w.heap.size ≤ gb207)); have n3_ := Aside0.mk ((by rw [hg]; exact (below_size bw) : w.heap.size ≤ gb207)); clear HB; have HB := n0_; have BK207 := n1_; have GW207 := n2_; have GE207 := n3_; clear n0_ n1_ n2_ n3_; clear hb hbox hg))
 go_loopg [5, 6] k (fun kq v5 v6 w' => ∃ (x5_1 : List Int) (x6_1 : Int) (x208000_1 : Int) (x208001_1 : ByteArray), v6 = .int .i64 x6_1 ∧ Aside0 (lex_quoted.l0 kq a0 x5_1 x6_1 = some (r1, r2, r3, r4)) ∧ Aside0 (kq ≤ k) ∧ Aside0 (Kd.R (Kd.int .u8) 5 w' w.heap.size (fun _ => True) v5 x5_1) ∧ Aside0 (w'.heap[gb207]? = some (.cells #[.int .i64 x208000_1, .string x208001_1] 71 (0, 0))) ∧ Aside0 (Below w.heap.size w w'))
 case atStart => exact ⟨(([] : List Int)), (1), (0), ((⟨#[]⟩ : ByteArray)), cl, H', ⟨Nat.le_refl _⟩, ⟨by first | exact Kd.R_nil _ _ _ _ _ | exact Kd.N_nil _ _ _ _ _ | exact Kd.V_nil _ _ _ _ _ | exact Kd.Q_nil _ _ _ _ _ | exact Kd.S_nil _ _ _ _ _⟩, ⟨bk⟩, ⟨bwS⟩⟩
 case round =>
  clear H'
  try clear p2
  obtain ⟨x5_1, x6_1, x208000_1, x208001_1, rfl, HA, HK1, HO_5, BK207, HB⟩ := hrel; cases gk with
  | zero => exact absurd HA.out (by simp [lex_quoted.l0])
  | succ k1 =>
   have H := HA.out; clear HA; simp only [lex_quoted.l0] at H
   by_cases c3 : x6_1 < (a0.size : Int)
   ·rw [if_pos c3] at H; have c3b0 : decide (x6_1 < (a0.size : Int)) = true := decide_eq_true c3; clear c3
    by_cases c4 : 0 ≤ x6_1
    ·rw [if_pos c4] at H; have c4b0 : decide (0 ≤ x6_1) = true := decide_eq_true c4; clear c4; have c6b0 := eq_true (od : 0 ≤ x6_1)
     by_cases c7 : x6_1 ≤ (a0.size : Int)
     ·rw [if_pos c7] at H; have c7b0 := eq_true c7; have c7b1 : decide (x6_1 ≤ (a0.size : Int)) = true := decide_eq_true c7; clear c7; replace H := Option.bind_eq_some_iff.mp H; obtain ⟨t208, A80, H⟩ := H; replace H : (if t208 = true then (lex_quoted.l0 k1 a0 x5_1 (wrap64 ((wrap64 (x6_1 + 1)) + 1))) else (if (bt a0 x6_1) = 92 then (if 0 ≤ (wrap64 (x6_1 + 1)) then (if (wrap64 (x6_1 + 1)) ≤ (a0.size : Int) then ((lex_escaped.f (a0.extract ((wrap64 (x6_1 + 1)) : Int).toNat a0.size)).bind fun t209 => (if t209 = 0 then (if (wrap64 (x6_1 + 1)) < (a0.size : Int) then (if x5_1.length < 140737488355328 then (lex_quoted.l0 k1 a0 (x5_1 ++ [bt a0 (wrap64 (x6_1 + 1))]) (wrap64 ((wrap64 (x6_1 + 1)) + 1))) else (none)) else (none)) else (some (0, (⟨#[]⟩ : ByteArray), (⟨#[]⟩ : ByteArray), t209)))) else (none)) else (none)) else (if (bt a0 x6_1) = 34 then (if 0 ≤ (wrap64 (x6_1 + 1)) then (if (wrap64 (x6_1 + 1)) ≤ (a0.size : Int) then (some (2, strOfNums x5_1, a0.extract ((wrap64 (x6_1 + 1)) : Int).toNat a0.size, 0)) else (none)) else (none)) else ((lex_text.f (bt a0 x6_1)).bind fun t213 => (if t213 = true then (if x5_1.length < 140737488355328 then (lex_quoted.l0 k1 a0 (x5_1 ++ [bt a0 x6_1]) (wrap64 (x6_1 + 1))) else (none)) else (some (0, (⟨#[]⟩ : ByteArray), (⟨#[]⟩ : ByteArray), 3))))))) = some (r1, r2, r3, r4) := H; have A8 := Aside0.mk A80; clear A80
      by_cases c9 : t208 = true
      ·subst c9; have H1 : (lex_quoted.l0 k1 a0 x5_1 (wrap64 ((wrap64 (x6_1 + 1)) + 1))) = some (r1, r2, r3, r4) := by rw [if_pos rfl] at H; exact H
       clear H; have H := H1; clear H1; have H' := Aside0.mk H; clear H; have p5 : 0 ≤ (x6_1 : Int) := od; have q5 : x6_1 < (a0.size : Int) := od; have hx5 := bt_at a0 x6_1; replace p5 := eq_true p5; replace q5 := eq_true q5
       go_wp2_with (first | ((with_reducible refine gate_callee (f := 52) rfl ?_); refine goesL_ (some 26) rfl rfl Tryd.func52 (by kernel_rfl) rfl #[.string (a0.extract (x6_1 : Int).toNat a0.size)] rfl am ?_; (with_reducible refine (lex_fold.calls (a0.extract (x6_1 : Int).toNat a0.size) true _ A8.out).mono ?_); rintro e w' ⟨rfl, ⟨nd, rfl⟩⟩; refine ⟨_, rfl, ?_⟩))
       go_roundg k1
       case measure => have := HK1.out; omega
       case rel => exact ⟨(x5_1), (wrap64 ((wrap64 (x6_1 + 1)) + 1)), (x208000_1), (x208001_1), cl, H', ⟨by have := HK1.out; omega⟩, ⟨by (with_reducible repeat (first | apply Kd.R_alloc | apply Kd.R_drewN | apply Kd.R_drew)); exact HO_5.out⟩, ⟨bk⟩, ⟨bwS⟩⟩
      ·replace c9 := Bool.eq_false_iff.mpr c9; subst c9; have H1 : (if (bt a0 x6_1) = 92 then (if 0 ≤ (wrap64 (x6_1 + 1)) then (if (wrap64 (x6_1 + 1)) ≤ (a0.size : Int) then ((lex_escaped.f (a0.extract ((wrap64 (x6_1 + 1)) : Int).toNat a0.size)).bind fun t209 => (if t209 = 0 then (if (wrap64 (x6_1 + 1)) < (a0.size : Int) then (if x5_1.length < 140737488355328 then (lex_quoted.l0 k1 a0 (x5_1 ++ [bt a0 (wrap64 (x6_1 + 1))]) (wrap64 ((wrap64 (x6_1 + 1)) + 1))) else (none)) else (none)) else (some (0, (⟨#[]⟩ : ByteArray), (⟨#[]⟩ : ByteArray), t209)))) else (none)) else (none)) else (if (bt a0 x6_1) = 34 then (if 0 ≤ (wrap64 (x6_1 + 1)) then (if (wrap64 (x6_1 + 1)) ≤ (a0.size : Int) then (some (2, strOfNums x5_1, a0.extract ((wrap64 (x6_1 + 1)) : Int).toNat a0.size, 0)) else (none)) else (none)) else ((lex_text.f (bt a0 x6_1)).bind fun t213 => (if t213 = true then (if x5_1.length < 140737488355328 then (lex_quoted.l0 k1 a0 (x5_1 ++ [bt a0 x6_1]) (wrap64 (x6_1 + 1))) else (none)) else (some (0, (⟨#[]⟩ : ByteArray), (⟨#[]⟩ : ByteArray), 3)))))) = some (r1, r2, r3, r4) := by rw [if_neg (show ¬ (false = true) by decide)] at H; exact H
       clear H; have H := H1; clear H1
       by_cases c10 : (bt a0 x6_1) = 92
       ·rw [if_pos c10] at H; have c10b0 : ((bt a0 x6_1) == 92) = true := beq_iff_eq.mpr c10; have c10b1 : ((bt a0 x6_1) != 92) = false := bne_eq_false_iff_eq.mpr c10; clear c10; obtain ⟨ji11, hji11⟩ : ∃ j_ : Int, (wrap64 (x6_1 + 1)) = j_ := ⟨_, rfl⟩
        replace H : (if 0 ≤ (ji11) then (if (ji11) ≤ (a0.size : Int) then ((lex_escaped.f (a0.extract ((ji11) : Int).toNat a0.size)).bind fun t209 => (if t209 = 0 then (if (ji11) < (a0.size : Int) then (if x5_1.length < 140737488355328 then (lex_quoted.l0 k1 a0 (x5_1 ++ [bt a0 (ji11)]) (wrap64 ((ji11) + 1))) else (none)) else (none)) else (some (0, (⟨#[]⟩ : ByteArray), (⟨#[]⟩ : ByteArray), t209)))) else (none)) else (none)) = some (r1, r2, r3, r4) := by first | (rw [hji11] at H; exact H) | (simp only [hji11] at H ⊢; exact H)
        (try rw [hji11] at A8)
        have hji11w : (IntKind.i64.wrap (x6_1 + 1)) = ji11 := (i64_w _).trans hji11
        by_cases c12 : 0 ≤ (ji11)
        ·rw [if_pos c12] at H; have c12b0 := eq_true c12; have c12b1 : decide (0 ≤ (ji11)) = true := decide_eq_true c12; clear c12
         by_cases c13 : (ji11) ≤ (a0.size : Int)
         ·rw [if_pos c13] at H; have c13b0 := eq_true c13; have c13b1 : decide ((ji11) ≤ (a0.size : Int)) = true := decide_eq_true c13; clear c13; replace H := Option.bind_eq_some_iff.mp H; obtain ⟨t209, A140, H⟩ := H; replace H : (if t209 = 0 then (if (ji11) < (a0.size : Int) then (if x5_1.length < 140737488355328 then (lex_quoted.l0 k1 a0 (x5_1 ++ [bt a0 (ji11)]) (wrap64 ((ji11) + 1))) else (none)) else (none)) else (some (0, (⟨#[]⟩ : ByteArray), (⟨#[]⟩ : ByteArray), t209))) = some (r1, r2, r3, r4) := H; have A14 := Aside0.mk A140; clear A140
          by_cases c15 : t209 = 0
          ·rw [if_pos c15] at H; have c15b0 : (t209 == 0) = true := beq_iff_eq.mpr c15; have c15b1 : (t209 != 0) = false := bne_eq_false_iff_eq.mpr c15; clear c15
           by_cases c16 : (ji11) < (a0.size : Int)
           ·rw [if_pos c16] at H; have c16b0 : decide ((ji11) < (a0.size : Int)) = true := decide_eq_true c16; clear c16
            by_cases c18 : x5_1.length < 140737488355328
            ·rw [if_pos c18] at H; have LMc18 := Aside0.mk c18; clear c18; obtain ⟨y210, hy210⟩ : ∃ y_ : List Int, y_ = (x5_1 ++ [bt a0 (ji11)]) := ⟨_, rfl⟩
             replace H : (lex_quoted.l0 k1 a0 y210 (wrap64 ((ji11) + 1))) = some (r1, r2, r3, r4) := by first | (rw [hy210]; with_reducible exact H) | (have H2_ := (Option.bind_some _ _).symm.trans H; rw [hy210]; with_reducible exact H2_) | (have H2_ := (Option.bind_some _ _).symm.trans H; with_reducible exact H2_) | with_reducible exact H | (rw [hy210]; exact H) | exact H
             have Ny210 := Aside0.mk hy210; clear hy210; have H' := Aside0.mk H; clear H; have p5 : 0 ≤ (x6_1 : Int) := od; have q5 : x6_1 < (a0.size : Int) := od; have hx5 := bt_at a0 x6_1; replace p5 := eq_true p5; replace q5 := eq_true q5
             go_wp2_with (first | ((with_reducible refine gate_callee (f := 52) rfl ?_); refine goesL_ (some 26) rfl rfl Tryd.func52 (by kernel_rfl) rfl #[.string (a0.extract (x6_1 : Int).toNat a0.size)] rfl am ?_; (with_reducible refine (lex_fold.calls (a0.extract (x6_1 : Int).toNat a0.size) false _ A8.out).mono ?_); rintro e w' ⟨rfl, ⟨nd, rfl⟩⟩; refine ⟨_, rfl, ?_⟩) | ((with_reducible refine gate_callee (f := 66) rfl ?_); refine goesL_ (some 37) rfl rfl Tryd.func66 (by kernel_rfl) rfl #[.string (a0.extract ((ji11) : Int).toNat a0.size)] rfl (by (try simp only [List.map_toArray, List.map_cons, List.map_nil]); first | done | (simp only [hji11]; rfl) | rfl | (simp only [List.length_drop, List.length_take]; rfl)) ?_; (with_reducible refine (lex_escaped.calls (a0.extract ((ji11) : Int).toNat a0.size) t209 _ A14.out).mono ?_); rintro e w' ⟨rfl, ⟨nd, rfl⟩⟩; refine ⟨_, rfl, ?_⟩; have p17 : 0 ≤ ((ji11) : Int) := od; have q17 : (ji11) < (a0.size : Int) := od; have hx17 := bt_at a0 (ji11); replace p17 := eq_true p17; replace q17 := eq_true q17) | ((with_reducible refine gate_builtin (b := .append) (xs := #[.tmp 42, .tmp 46]) rfl ?_); at_builtin; refine Kd.R_append (Kd.int .u8) (w0 := w) w.heap.size rfl (.tmp 42) (.tmp 46) 58 5 (.int .u8 0) 1 rfl Tryd.underlying58 info5 rfl (by decide) (by omega) u5 x5_1 (bt a0 (ji11)) [.int .u8 (bt a0 (ji11))] (fun _ => True) (fun _ => False) rfl rfl ?aP (fun _ hk => hk.elim) ?aF ?aO ?aB ?aS ?aL ?_; (case aP => exact rfl); (case aB => exact bwS); (case aF => exact (fun _ _ => trivial)); (case aO => exact (ra HO_5.out)); (case aS => exact (below_size bwS)); (case aL => have := LMc18.out; omega); intro v211 w19 ho hb hg hat; rw [← Ny210.out] at ho; have n0_ := Aside0.mk (blk_grown (g := gb207) (o := .cells #[.int .i64 x208000_1, .string x208001_1] 71 (0, 0)) bk hg (Kd.R_ne HO_5.out BK207.out (by decide))); have n1_ := Aside0.mk (hb); have n2_ := Aside0.mk (ho); clear BK207; clear HB; clear HO_5; have BK207 := n0_; have HB := n1_; have HO212 := n2_; clear n0_ n1_ n2_; clear ho hb hg hat))
             go_roundg k1
             case measure => have := HK1.out; omega
             case rel => exact ⟨(y210), (wrap64 ((ji11) + 1)), (x208000_1), (x208001_1), (by first | rfl | (simp; done) | (simp only [← hji11] <;> (first | rfl | simp)) | (simp [*]; done) | (simp [nil_ne]; done) | (simp [u8_w, i64w_]; done) | (simp [size_lit]; done) | (simp; unfold wrap64; omega)), H', ⟨by have := HK1.out; omega⟩, ⟨by (with_reducible repeat (first | apply Kd.R_alloc | apply Kd.R_drewN | apply Kd.R_drew)); exact HO212.out⟩, ⟨bk⟩, ⟨bwS⟩⟩
            ·rw [if_neg c18] at H; exact absurd H (by simp)
           ·rw [if_neg c16] at H; exact absurd H (by simp)
          ·rw [if_neg c15] at H; have c15b0 : (t209 == 0) = false := beq_eq_false_iff_ne.mpr c15; have c15b1 : (t209 != 0) = true := bne_iff_ne.mpr c15; simp only [Option.some.injEq, Prod.mk.injEq] at H; obtain ⟨rfl, rfl, rfl, rfl⟩ := H; have p5 : 0 ≤ (x6_1 : Int) := od; have q5 : x6_1 < (a0.size : Int) := od; have hx5 := bt_at a0 x6_1; replace p5 := eq_true p5; replace q5 := eq_true q5
           go_wp2_with (first | ((with_reducible refine gate_callee (f := 52) rfl ?_); refine goesL_ (some 26) rfl rfl Tryd.func52 (by kernel_rfl) rfl #[.string (a0.extract (x6_1 : Int).toNat a0.size)] rfl am ?_; (with_reducible refine (lex_fold.calls (a0.extract (x6_1 : Int).toNat a0.size) false _ A8.out).mono ?_); rintro e w' ⟨rfl, ⟨nd, rfl⟩⟩; refine ⟨_, rfl, ?_⟩; (try (rw [drewN_self wr]; generalize hq_ : World.drewN wr _ = wr; have n0_ : Aside0 (Kd.R (Kd.int .u8) 5 wr w.heap.size (fun _ => True) u5 x5_1) := ⟨by rw [← hq_]; exact (ra HO_5.out)⟩; have n1_ : Aside0 (wr.heap[gb207]? = some (.cells #[.int .i64 x208000_1, .string x208001_1] 71 (0, 0))) := ⟨by rw [← hq_]; exact bk⟩; have n2_ : Aside0 (Below w.heap.size w wr) := ⟨by rw [← hq_]; exact bwS⟩; clear HO_5 BK207 HB hq_; have HO_5 := n0_; have BK207 := n1_; have HB := n2_; clear n0_ n1_ n2_))) | ((with_reducible refine gate_callee (f := 66) rfl ?_); refine goesL_ (some 37) rfl rfl Tryd.func66 (by kernel_rfl) rfl #[.string (a0.extract ((ji11) : Int).toNat a0.size)] rfl (by (try simp only [List.map_toArray, List.map_cons, List.map_nil]); first | done | (simp only [hji11]; rfl) | rfl | (simp only [List.length_drop, List.length_take]; rfl)) ?_; (with_reducible refine (lex_escaped.calls (a0.extract ((ji11) : Int).toNat a0.size) t209 _ A14.out).mono ?_); rintro e w' ⟨rfl, ⟨nd, rfl⟩⟩; refine ⟨_, rfl, ?_⟩; (try (rw [drewN_self wr]; generalize hq_ : World.drewN wr _ = wr; have n0_ : Aside0 (Kd.R (Kd.int .u8) 5 wr w.heap.size (fun _ => True) u5 x5_1) := ⟨by rw [← hq_]; exact (ra HO_5.out)⟩; have n1_ : Aside0 (wr.heap[gb207]? = some (.cells #[.int .i64 x208000_1, .string x208001_1] 71 (0, 0))) := ⟨by rw [← hq_]; exact bk⟩; have n2_ : Aside0 (Below w.heap.size w wr) := ⟨by rw [← hq_]; exact bwS⟩; clear HO_5 BK207 HB hq_; have HO_5 := n0_; have BK207 := n1_; have HB := n2_; clear n0_ n1_ n2_)); have hcz20_0 : wr.cell? ⟨gb207, 0, none⟩ = some (.int .i64 x208000_1) := (blk_cell BK207.out 0).trans rfl; have hcz20_1 : wr.cell? ⟨gb207, 1, none⟩ = some (.string x208001_1) := (blk_cell BK207.out 1).trans rfl; have hfz20_0 := blk_frozen BK207.out 0; have hfz20_1 := blk_frozen BK207.out 1))
           refine bodyPost_ret (results_ctt rfl _ _ gb207 71 #[.int .i64 0, .string (⟨#[]⟩ : ByteArray)] (0, 0) _ rfl (by (with_reducible repeat (first | refine blk_drewN ?_ _ | refine blk_drew ?_ | refine blk_alloc ?_ _)); refine blk_put (cs := #[.int .i64 0, .string x208001_1]) ?_ 1 _ rfl; (with_reducible repeat (first | refine blk_drewN ?_ _ | refine blk_drew ?_ | refine blk_alloc ?_ _)); exact blk_put (cs := #[.int .i64 x208000_1, .string x208001_1]) bk 0 _ rfl) Tryd.underlying71 rfl (by kernel_rfl)) rfl ?_; exact ⟨by first | rfl | (simp [errW_none, errW_some] <;> rfl) | (simp only [← hji11]; first | rfl | (simp [errW_none, errW_some] <;> rfl)) | (simp [*, errW_none, errW_some] <;> rfl), bwS⟩
         ·rw [if_neg c13] at H; exact absurd H (by simp)
        ·rw [if_neg c12] at H; exact absurd H (by simp)
       ·rw [if_neg c10] at H; have c10b0 : ((bt a0 x6_1) == 92) = false := beq_eq_false_iff_ne.mpr c10; have c10b1 : ((bt a0 x6_1) != 92) = true := bne_iff_ne.mpr c10
        by_cases c21 : (bt a0 x6_1) = 34
        ·rw [if_pos c21] at H; have c21b0 : ((bt a0 x6_1) == 34) = true := beq_iff_eq.mpr c21; have c21b1 : ((bt a0 x6_1) != 34) = false := bne_eq_false_iff_eq.mpr c21; clear c21; obtain ⟨ji22, hji22⟩ : ∃ j_ : Int, (wrap64 (x6_1 + 1)) = j_ := ⟨_, rfl⟩
         replace H : (if 0 ≤ (ji22) then (if (ji22) ≤ (a0.size : Int) then (some (2, strOfNums x5_1, a0.extract ((ji22) : Int).toNat a0.size, 0)) else (none)) else (none)) = some (r1, r2, r3, r4) := by first | (rw [hji22] at H; exact H) | (simp only [hji22] at H ⊢; exact H)
         (try rw [hji22] at A8)
         have hji22w : (IntKind.i64.wrap (x6_1 + 1)) = ji22 := (i64_w _).trans hji22
         by_cases c23 : 0 ≤ (ji22)
         ·rw [if_pos c23] at H; have c23b0 := eq_true c23; have c23b1 : decide (0 ≤ (ji22)) = true := decide_eq_true c23; clear c23
          by_cases c24 : (ji22) ≤ (a0.size : Int)
          ·rw [if_pos c24] at H; have c24b0 := eq_true c24; have c24b1 : decide ((ji22) ≤ (a0.size : Int)) = true := decide_eq_true c24; clear c24; simp only [Option.some.injEq, Prod.mk.injEq] at H; obtain ⟨rfl, rfl, rfl, rfl⟩ := H; have p5 : 0 ≤ (x6_1 : Int) := od; have q5 : x6_1 < (a0.size : Int) := od; have hx5 := bt_at a0 x6_1; replace p5 := eq_true p5; replace q5 := eq_true q5
           try go_wp2_with (first | ((with_reducible refine gate_callee (f := 52) rfl ?_); refine goesL_ (some 26) rfl rfl Tryd.func52 (by kernel_rfl) rfl #[.string (a0.extract (x6_1 : Int).toNat a0.size)] rfl am ?_; (with_reducible refine (lex_fold.calls (a0.extract (x6_1 : Int).toNat a0.size) false _ A8.out).mono ?_); rintro e w' ⟨rfl, ⟨nd, rfl⟩⟩; refine ⟨_, rfl, ?_⟩; (try (rw [drewN_self wr]; generalize hq_ : World.drewN wr _ = wr; have n0_ : Aside0 (Kd.R (Kd.int .u8) 5 wr w.heap.size (fun _ => True) u5 x5_1) := ⟨by rw [← hq_]; exact (ra HO_5.out)⟩; have n1_ : Aside0 (wr.heap[gb207]? = some (.cells #[.int .i64 x208000_1, .string x208001_1] 71 (0, 0))) := ⟨by rw [← hq_]; exact bk⟩; have n2_ : Aside0 (Below w.heap.size w wr) := ⟨by rw [← hq_]; exact bwS⟩; clear HO_5 BK207 HB hq_; have HO_5 := n0_; have BK207 := n1_; have HB := n2_; clear n0_ n1_ n2_))))
           have n0_ := Aside0.mk (Kd.R_drew HO_5.out); have n1_ := Aside0.mk (blk_drew BK207.out); have n2_ := Aside0.mk (below_drew1 HB.out); clear HO_5 BK207 HB; have HO_5 := n0_; have BK207 := n1_; have HB := n2_; clear n0_ n1_ n2_; have hcv26 := own_string (P := Tryd.prog) Tryd.underlying58 Tryd.underlying5 Tryd.underlying9 (Kd.own_of_R HO_5.out); refine start_conv (n := 10) (ds := [7]) #[false, false, false, false, false, false, false, false, false, false] (by kernel_rfl) rfl rfl hcv26 (fun hHeld => ?_); refine with_tabW lex_quoted.tab16 lex_quoted.bits16 (fun HT_ HW_ => ?_)
           generalize wr.drew = w25 at HO_5 BK207 HB hHeld ⊢
           refine pure_ (i := 0) (N := some 51) (v := ?_) (a' := ?_) (bitsL 10 1) rfl rfl (any_of HT_.out (by kernel_rfl)) (fun _ _ _ h => h) (Or.inl ⟨by rfl, ?_⟩) ?_ ?_; rotate_left
           ·intro w'; go_simp; with_reducible rfl
           rotate_left
           ·simp only [Act.put, List.setIfInBounds_toArray, List.set_cons_zero, List.set_cons_succ, i64_w, i32_w]; rfl
           refine take_ (i := 1) (N := some 52) (v := ?_) (a' := ?_) (bitsL 10 3) rfl rfl (take_ofW HT_.out HW_.out (by kernel_rfl)) (fun _ _ _ h => h) (Or.inl ⟨by rfl, ?_⟩) hHeld ?_ ?_; rotate_left
           ·intro w' s0; go_simp; with_reducible rfl
           rotate_left
           ·simp only [Act.put, List.setIfInBounds_toArray, List.set_cons_zero, List.set_cons_succ, i64_w, i32_w]; rfl
           refine pure_ (i := 2) (N := some 53) (v := ?_) (a' := ?_) (bitsL 10 7) rfl rfl (any_of HT_.out (by kernel_rfl)) (fun _ _ _ h => h) (Or.inl ⟨by rfl, ?_⟩) ?_ ?_; rotate_left
           ·intro w'; go_simp; with_reducible rfl
           rotate_left
           ·simp only [Act.put, List.setIfInBounds_toArray, List.set_cons_zero, List.set_cons_succ, i64_w, i32_w]; rfl
           refine pure_ (i := 3) (N := some 54) (v := ?_) (a' := ?_) (bitsL 10 15) rfl rfl (any_of HT_.out (by kernel_rfl)) (fun _ _ _ h => h) (Or.inl ⟨by rfl, ?_⟩) ?_ ?_; rotate_left
           ·intro w'; go_simp; with_reducible rfl
           rotate_left
           ·simp only [Act.put, List.setIfInBounds_toArray, List.set_cons_zero, List.set_cons_succ, i64_w, i32_w]; rfl
           refine pure_ (i := 4) (N := some 55) (v := ?_) (a' := ?_) (bitsL 10 31) rfl rfl (any_of HT_.out (by kernel_rfl)) (fun _ _ _ h => h) (Or.inl ⟨by rfl, ?_⟩) ?_ ?_; rotate_left
           ·intro w'; go_simp; with_reducible rfl
           rotate_left
           ·simp only [Act.put, List.setIfInBounds_toArray, List.set_cons_zero, List.set_cons_succ, i64_w, i32_w]; rfl
           refine pure_ (i := 5) (N := some 56) (v := ?_) (a' := ?_) (bitsL 10 63) rfl rfl (any_of HT_.out (by kernel_rfl)) (fun _ _ _ h => h) (Or.inl ⟨by rfl, ?_⟩) ?_ ?_; rotate_left
           ·intro w'; go_simp; with_reducible rfl
           rotate_left
           ·simp only [Act.put, List.setIfInBounds_toArray, List.set_cons_zero, List.set_cons_succ, i64_w, i32_w]; rfl
           refine pure_ (i := 6) (N := some 57) (v := ?_) (a' := ?_) (bitsL 10 127) rfl rfl (any_of HT_.out (by kernel_rfl)) (fun _ _ _ h => h) (Or.inl ⟨by rfl, ?_⟩) ?_ ?_; rotate_left
           ·intro w'; go_simp; with_reducible rfl
           rotate_left
           ·simp only [Act.put, List.setIfInBounds_toArray, List.set_cons_zero, List.set_cons_succ, i64_w, i32_w]; rfl
           refine last_ (i := 7) (N := none) (bitsL 10 255) rfl rfl (one_of HT_.out (by kernel_rfl)) (by decide) (fun K hK => ?_); have hs27 : w25.cell? ⟨gb207, 0, none⟩ = some (.int .i64 x208000_1) := (blk_cell BK207.out 0).trans rfl; have hfs27 := blk_frozen BK207.out 0; have hs28 : w25.cell? ⟨gb207, 1, none⟩ = some (.string x208001_1) := (blk_cell BK207.out 1).trans rfl; have hfs28 := blk_frozen BK207.out 1; refine skip_ (w1 := ?_) (by rfl) rfl ?_ ?_; rotate_left
           ·go_simp; rfl
           refine hK.out _ _ ?_; clear hK K; refine pure_ (i := 8) (N := some 3) (v := ?_) (a' := ?_) (bitsL 10 511) rfl rfl (any_of HT_.out (by kernel_rfl)) (fun _ _ _ h => h) (Or.inl ⟨by rfl, ?_⟩) ?_ ?_; rotate_left
           ·intro w'; go_simp; with_reducible rfl
           rotate_left
           ·simp only [Act.put, List.setIfInBounds_toArray, List.set_cons_zero, List.set_cons_succ, i64_w, i32_w]; rfl
           refine pure_ (i := 9) (N := some 4) (v := ?_) (a' := ?_) (bitsL 10 1023) rfl rfl (any_of HT_.out (by kernel_rfl)) (fun _ _ _ h => h) (Or.inl ⟨by rfl, ?_⟩) ?_ ?_; rotate_left
           ·intro w'; go_simp; with_reducible rfl
           rotate_left
           ·simp only [Act.put, List.setIfInBounds_toArray, List.set_cons_zero, List.set_cons_succ, i64_w, i32_w]; rfl
           refine done_ (done_of HT_.out (by kernel_rfl)) ?_
           try go_wp2
           refine bodyPost_ret (results_ctt rfl _ _ gb207 71 #[.int .i64 2, .string (strOfNums x5_1)] (0, 0) _ rfl (by (with_reducible repeat (first | refine blk_drewN ?_ _ | refine blk_drew ?_ | refine blk_alloc ?_ _)); refine blk_put (cs := #[.int .i64 2, .string x208001_1]) ?_ 1 _ rfl; (with_reducible repeat (first | refine blk_drewN ?_ _ | refine blk_drew ?_ | refine blk_alloc ?_ _)); exact blk_put (cs := #[.int .i64 x208000_1, .string x208001_1]) bk 0 _ rfl) Tryd.underlying71 rfl (by kernel_rfl)) rfl ?_; exact ⟨by first | rfl | (simp [errW_none, errW_some] <;> rfl) | (simp only [← hji22]; first | rfl | (simp [errW_none, errW_some] <;> rfl)) | (simp [*, errW_none, errW_some] <;> rfl), bwS⟩
          ·rw [if_neg c24] at H; exact absurd H (by simp)
         ·rw [if_neg c23] at H; exact absurd H (by simp)
        ·rw [if_neg c21] at H; have c21b0 : ((bt a0 x6_1) == 34) = false := beq_eq_false_iff_ne.mpr c21; have c21b1 : ((bt a0 x6_1) != 34) = true := bne_iff_ne.mpr c21; replace H := Option.bind_eq_some_iff.mp H; obtain ⟨t213, A290, H⟩ := H; replace H : (if t213 = true then (if x5_1.length < 140737488355328 then (lex_quoted.l0 k1 a0 (x5_1 ++ [bt a0 x6_1]) (wrap64 (x6_1 + 1))) else (none)) else (some (0, (⟨#[]⟩ : ByteArray), (⟨#[]⟩ : ByteArray), 3))) = some (r1, r2, r3, r4) := H; have A29 := Aside0.mk A290; clear A290
         by_cases c30 : t213 = true
         ·subst c30; have H1 : (if x5_1.length < 140737488355328 then (lex_quoted.l0 k1 a0 (x5_1 ++ [bt a0 x6_1]) (wrap64 (x6_1 + 1))) else (none)) = some (r1, r2, r3, r4) := by rw [if_pos rfl] at H; exact H
          clear H; have H := H1; clear H1
          by_cases c31 : x5_1.length < 140737488355328
          ·rw [if_pos c31] at H; have LMc31 := Aside0.mk c31; clear c31; obtain ⟨y214, hy214⟩ : ∃ y_ : List Int, y_ = (x5_1 ++ [bt a0 x6_1]) := ⟨_, rfl⟩
           replace H : (lex_quoted.l0 k1 a0 y214 (wrap64 (x6_1 + 1))) = some (r1, r2, r3, r4) := by first | (rw [hy214]; with_reducible exact H) | (have H2_ := (Option.bind_some _ _).symm.trans H; rw [hy214]; with_reducible exact H2_) | (have H2_ := (Option.bind_some _ _).symm.trans H; with_reducible exact H2_) | with_reducible exact H | (rw [hy214]; exact H) | exact H
           have Ny214 := Aside0.mk hy214; clear hy214; have H' := Aside0.mk H; clear H; have p5 : 0 ≤ (x6_1 : Int) := od; have q5 : x6_1 < (a0.size : Int) := od; have hx5 := bt_at a0 x6_1; replace p5 := eq_true p5; replace q5 := eq_true q5
           go_wp2_with (first | ((with_reducible refine gate_callee (f := 52) rfl ?_); refine goesL_ (some 26) rfl rfl Tryd.func52 (by kernel_rfl) rfl #[.string (a0.extract (x6_1 : Int).toNat a0.size)] rfl am ?_; (with_reducible refine (lex_fold.calls (a0.extract (x6_1 : Int).toNat a0.size) false _ A8.out).mono ?_); rintro e w' ⟨rfl, ⟨nd, rfl⟩⟩; refine ⟨_, rfl, ?_⟩) | ((with_reducible refine gate_callee (f := 45) rfl ?_); refine goesL_ (some 60) rfl rfl Tryd.func45 (by kernel_rfl) rfl #[.int .u8 (bt a0 x6_1)] rfl am ?_; (with_reducible refine (lex_text.calls (bt a0 x6_1) true _ A29.out).mono ?_); rintro e w' ⟨rfl, ⟨nd, rfl⟩⟩; refine ⟨_, rfl, ?_⟩) | ((with_reducible refine gate_builtin (b := .append) (xs := #[.tmp 18, .tmp 20]) rfl ?_); at_builtin; refine Kd.R_append (Kd.int .u8) (w0 := w) w.heap.size rfl (.tmp 18) (.tmp 20) 58 5 (.int .u8 0) 1 rfl Tryd.underlying58 info5 rfl (by decide) (by omega) u5 x5_1 (bt a0 x6_1) [.int .u8 (bt a0 x6_1)] (fun _ => True) (fun _ => False) rfl rfl ?aP (fun _ hk => hk.elim) ?aF ?aO ?aB ?aS ?aL ?_; (case aP => exact rfl); (case aB => exact bwS); (case aF => exact (fun _ _ => trivial)); (case aO => exact (ra HO_5.out)); (case aS => exact (below_size bwS)); (case aL => have := LMc31.out; omega); intro v215 w32 ho hb hg hat; rw [← Ny214.out] at ho; have n0_ := Aside0.mk (blk_grown (g := gb207) (o := .cells #[.int .i64 x208000_1, .string x208001_1] 71 (0, 0)) bk hg (Kd.R_ne HO_5.out BK207.out (by decide))); have n1_ := Aside0.mk (hb); have n2_ := Aside0.mk (ho); clear BK207; clear HB; clear HO_5; have BK207 := n0_; have HB := n1_; have HO216 := n2_; clear n0_ n1_ n2_; clear ho hb hg hat))
           go_roundg k1
           case measure => have := HK1.out; omega
           case rel => exact ⟨(y214), (wrap64 (x6_1 + 1)), (x208000_1), (x208001_1), cl, H', ⟨by have := HK1.out; omega⟩, ⟨by (with_reducible repeat (first | apply Kd.R_alloc | apply Kd.R_drewN | apply Kd.R_drew)); exact HO216.out⟩, ⟨bk⟩, ⟨bwS⟩⟩
          ·rw [if_neg c31] at H; exact absurd H (by simp)
         ·replace c30 := Bool.eq_false_iff.mpr c30; subst c30; have H1 : (some (0, (⟨#[]⟩ : ByteArray), (⟨#[]⟩ : ByteArray), 3)) = some (r1, r2, r3, r4) := by rw [if_neg (show ¬ (false = true) by decide)] at H; exact H
          clear H; have H := H1; clear H1; simp only [Option.some.injEq, Prod.mk.injEq] at H; obtain ⟨rfl, rfl, rfl, rfl⟩ := H; have p5 : 0 ≤ (x6_1 : Int) := od; have q5 : x6_1 < (a0.size : Int) := od; have hx5 := bt_at a0 x6_1; replace p5 := eq_true p5; replace q5 := eq_true q5
          go_wp2_with (first | ((with_reducible refine gate_callee (f := 52) rfl ?_); refine goesL_ (some 26) rfl rfl Tryd.func52 (by kernel_rfl) rfl #[.string (a0.extract (x6_1 : Int).toNat a0.size)] rfl am ?_; (with_reducible refine (lex_fold.calls (a0.extract (x6_1 : Int).toNat a0.size) false _ A8.out).mono ?_); rintro e w' ⟨rfl, ⟨nd, rfl⟩⟩; refine ⟨_, rfl, ?_⟩; (try (rw [drewN_self wr]; generalize hq_ : World.drewN wr _ = wr; have n0_ : Aside0 (Kd.R (Kd.int .u8) 5 wr w.heap.size (fun _ => True) u5 x5_1) := ⟨by rw [← hq_]; exact (ra HO_5.out)⟩; have n1_ : Aside0 (wr.heap[gb207]? = some (.cells #[.int .i64 x208000_1, .string x208001_1] 71 (0, 0))) := ⟨by rw [← hq_]; exact bk⟩; have n2_ : Aside0 (Below w.heap.size w wr) := ⟨by rw [← hq_]; exact bwS⟩; clear HO_5 BK207 HB hq_; have HO_5 := n0_; have BK207 := n1_; have HB := n2_; clear n0_ n1_ n2_))) | ((with_reducible refine gate_callee (f := 45) rfl ?_); refine goesL_ (some 60) rfl rfl Tryd.func45 (by kernel_rfl) rfl #[.int .u8 (bt a0 x6_1)] rfl am ?_; (with_reducible refine (lex_text.calls (bt a0 x6_1) false _ A29.out).mono ?_); rintro e w' ⟨rfl, ⟨nd, rfl⟩⟩; refine ⟨_, rfl, ?_⟩; (try (rw [drewN_self wr]; generalize hq_ : World.drewN wr _ = wr; have n0_ : Aside0 (Kd.R (Kd.int .u8) 5 wr w.heap.size (fun _ => True) u5 x5_1) := ⟨by rw [← hq_]; exact (ra HO_5.out)⟩; have n1_ : Aside0 (wr.heap[gb207]? = some (.cells #[.int .i64 x208000_1, .string x208001_1] 71 (0, 0))) := ⟨by rw [← hq_]; exact bk⟩; have n2_ : Aside0 (Below w.heap.size w wr) := ⟨by rw [← hq_]; exact bwS⟩; clear HO_5 BK207 HB hq_; have HO_5 := n0_; have BK207 := n1_; have HB := n2_; clear n0_ n1_ n2_)); have hcz33_0 : wr.cell? ⟨gb207, 0, none⟩ = some (.int .i64 x208000_1) := (blk_cell BK207.out 0).trans rfl; have hcz33_1 : wr.cell? ⟨gb207, 1, none⟩ = some (.string x208001_1) := (blk_cell BK207.out 1).trans rfl; have hfz33_0 := blk_frozen BK207.out 0; have hfz33_1 := blk_frozen BK207.out 1))
          refine bodyPost_ret (results_ctt rfl _ _ gb207 71 #[.int .i64 0, .string (⟨#[]⟩ : ByteArray)] (0, 0) _ rfl (by (with_reducible repeat (first | refine blk_drewN ?_ _ | refine blk_drew ?_ | refine blk_alloc ?_ _)); refine blk_put (cs := #[.int .i64 0, .string x208001_1]) ?_ 1 _ rfl; (with_reducible repeat (first | refine blk_drewN ?_ _ | refine blk_drew ?_ | refine blk_alloc ?_ _)); exact blk_put (cs := #[.int .i64 x208000_1, .string x208001_1]) bk 0 _ rfl) Tryd.underlying71 rfl (by kernel_rfl)) rfl ?_; exact ⟨ew, bwS⟩
     ·rw [if_neg c7] at H; exact absurd H (by simp)
    ·rw [if_neg c4] at H; exact absurd H (by simp)
   ·rw [if_neg c3] at H; have c3b0 : decide (x6_1 < (a0.size : Int)) = false := decide_eq_false c3; clear c3; simp only [Option.some.injEq, Prod.mk.injEq] at H; obtain ⟨rfl, rfl, rfl, rfl⟩ := H; have hcz34_0 : wr.cell? ⟨gb207, 0, none⟩ = some (.int .i64 x208000_1) := (blk_cell BK207.out 0).trans rfl; have hcz34_1 : wr.cell? ⟨gb207, 1, none⟩ = some (.string x208001_1) := (blk_cell BK207.out 1).trans rfl; have hfz34_0 := blk_frozen BK207.out 0; have hfz34_1 := blk_frozen BK207.out 1
    go_wp2
    refine bodyPost_ret (results_ctt rfl _ _ gb207 71 #[.int .i64 0, .string (⟨#[]⟩ : ByteArray)] (0, 0) _ rfl (by (with_reducible repeat (first | refine blk_drewN ?_ _ | refine blk_drew ?_ | refine blk_alloc ?_ _)); refine blk_put (cs := #[.int .i64 0, .string x208001_1]) ?_ 1 _ rfl; (with_reducible repeat (first | refine blk_drewN ?_ _ | refine blk_drew ?_ | refine blk_alloc ?_ _)); exact blk_put (cs := #[.int .i64 x208000_1, .string x208001_1]) bk 0 _ rfl) Tryd.underlying71 rfl (by kernel_rfl)) rfl ?_; exact ⟨ew, bwS⟩

end Go.Proofs.YtnnlhpmkfijppaaDoor.Fn
namespace Go.Proofs.YtnnlhpmkfijppaaDoor.Fn
open Go.RowKit Go.Proofs.YtnnlhpmkfijppaaDoorW.PrintWords Go.Proofs.YtnnlhpmkfijppaaDoorW.PrintLast Go.Proofs.YtnnlhpmkfijppaaDoorW.PrintMore
attribute [local go_sem] max2_int min2_int max_two min_two max_three min_three max_four min_four
set_option linter.unusedVariables false
set_option linter.unusedSimpArgs false

def lex_sign.f (a0 : Int) : Option (Bool) := (strings_IndexByte.f (⟨#[60, 62, 58, 59, 64, 44, 46]⟩ : ByteArray) a0).bind fun t217 => (some (decide (t217 ≥ 0)))
set_option maxHeartbeats 8000000 in
set_option maxRecDepth 100000 in
theorem lex_sign.calls (a0 : Int) (r : Bool) (w : World) (h : lex_sign.f a0 = some r) :
  Calls Tryd.prog 55 #[.int .u8 a0] w fun e w' => e = .returned (.bool r) ∧ Drawn0 w w' := by
 have H : ((strings_IndexByte.f (⟨#[60, 62, 58, 59, 64, 44, 46]⟩ : ByteArray) a0).bind fun t217 => (some (decide (t217 ≥ 0)))) = some r := h; clear h; replace H := Option.bind_eq_some_iff.mp H; obtain ⟨t217, A20, H⟩ := H; replace H : (some (decide (t217 ≥ 0))) = some r := H; have A2 := Aside0.mk A20; clear A20; obtain rfl := Option.some.inj H
 go_enter Tryd.func55, Tryd.ntmps55
 go_wp2_with (first | ((with_reducible refine gate_callee (f := 67) rfl ?_); refine goesL_ (some 4) rfl rfl Tryd.func67 (by kernel_rfl) rfl #[.string (⟨#[60, 62, 58, 59, 64, 44, 46]⟩ : ByteArray), .int .u8 a0] rfl am ?_; (with_reducible refine (strings_IndexByte.calls (⟨#[60, 62, 58, 59, 64, 44, 46]⟩ : ByteArray) a0 t217 _ A2.out).mono ?_); rintro e w' ⟨rfl, ⟨nd, rfl⟩⟩; refine ⟨_, rfl, ?_⟩))
 go_ret
 exact ⟨cl, d0⟩

end Go.Proofs.YtnnlhpmkfijppaaDoor.Fn
