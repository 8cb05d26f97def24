/- A part of the proof of this sentence: The lines of a body, each with its end behind it, are the body, but for an end that may lack at its end; none of them has an end in it; the tables of unicode/utf8 are as the program's text lays them. -/
import Derived.Test.YtbjbpgmjijeppaaDoorCMsgJoins2
import Derived.Deep.QuietTactic
import Derived.BigQuiet
import Derived.Shelf.Strings.IndexAnyAll
import Derived.Shelf.Strings.SlTrimAscii
import Derived.RangeFuncRecord
namespace Go.Proofs.YtbjbpgmjijeppaaDoor.Fn
open Go.RowKit Go.Proofs.YtbjbpgmjijeppaaDoorW.PrintWords Go.Proofs.YtbjbpgmjijeppaaDoorW.PrintLast Go.Proofs.YtbjbpgmjijeppaaDoorW.PrintMore
attribute [local go_sem] max2_int min2_int max_two min_two max_three min_three max_four min_four
set_option linter.unusedVariables false
set_option linter.unusedSimpArgs false

/-! ### mbx_stops: function 97 -/
def mbx_stops.f (a0_0 : Int) (a0_1 : ByteArray) : Option (Bool) := if a0_0 = 3 then ((strings_Contains.f (⟨#[44, 59, 58, 60, 62]⟩ : ByteArray) a0_1).bind fun t199 => (some t199)) else (some false)
set_option maxHeartbeats 8000000 in
set_option maxRecDepth 100000 in
theorem mbx_stops.calls (a0_0 : Int) (a0_1 : ByteArray) (r : Bool) (w : World) (hG : Glob w) (h : mbx_stops.f a0_0 a0_1 = some r) :
  Calls Tryd.prog 97 #[.agg #[.int .i64 a0_0, .string a0_1]] w fun e w' => e = .returned (.bool r) ∧ Below w.heap.size w w' := by
 have hu98 := Tryd.underlying98
 have HB := Aside0.mk (Below.refl w.heap.size w)
 have H : (if a0_0 = 3 then ((strings_Contains.f (⟨#[44, 59, 58, 60, 62]⟩ : ByteArray) a0_1).bind fun t199 => (some t199)) else (some false)) = some r := h
 clear h
 by_cases c2 : a0_0 = 3
 ·rw [if_pos c2] at H
  have c2b0 : (a0_0 == 3) = true := beq_iff_eq.mpr c2
  have c2b1 : (a0_0 != 3) = false := bne_eq_false_iff_eq.mpr c2
  clear c2
  replace H := Option.bind_eq_some_iff.mp H
  obtain ⟨t199, A30, H⟩ := H
  replace H : (some t199) = some r := H
  have A3 := Aside0.mk A30
  clear A30
  obtain rfl := Option.some.inj H
  go_enter Tryd.func97, Tryd.ntmps97
  go_wp2_with (first | ((with_reducible refine gate_dst (N := 1) rfl ?_); refine box_event ?hg (N := 1) ?hd (cs := #[.int .i64 a0_0, .string a0_1]) (t := 98) ?hr ?_; (case hd => rfl); (case hg => rfl); (case hr => first | (go_simp; done) | (go_simp; rfl)); intro gb198 hg w4 hbox hb; have n0_ := Aside0.mk (below_step bw hb); have n1_ := Aside0.mk (hbox); have n2_ := Aside0.mk ((by rw [hg]; exact (below_size bw) : w.heap.size ≤ gb198)); have n3_ := Aside0.mk ((by rw [hg]; exact (below_size bw) : w.heap.size ≤ gb198)); clear HB; have HB := n0_; have BK198 := n1_; have GW198 := n2_; have GE198 := n3_; clear n0_ n1_ n2_ n3_; clear hb hbox hg; have hcz5_0 : w4.cell? ⟨gb198, 0, none⟩ = some (.int .i64 a0_0) := (blk_cell BK198.out 0).trans rfl; have hcz5_1 : w4.cell? ⟨gb198, 1, none⟩ = some (.string a0_1) := (blk_cell BK198.out 1).trans rfl; have hfz5_0 := blk_frozen BK198.out 0; have hfz5_1 := blk_frozen BK198.out 1) | (go_at_call 110; (with_reducible refine (strings_Contains.calls (hG := by first | exact hG | exact Glob.below hG (by first | exact HB.out | (repeat (first | (with_reducible first | exact HB.out | apply below_alloc | apply pw_below_drewN | apply below_drew1 | refine below_set ?_ GE198.out) | exact HB.out))) | exact Glob.drawn hG (by repeat (first | exact Drawn0.refl _ | apply Drawn0.step))) (⟨#[44, 59, 58, 60, 62]⟩ : ByteArray) a0_1 t199 _ A3.out).mono ?_); rintro e w6 ⟨rfl, hb⟩; have n0_ := Aside0.mk (blk_below (g := gb198) (o := .cells #[.int .i64 a0_0, .string a0_1] 98 (0, 0)) bk hb); have n1_ := Aside0.mk (below_step bwS hb); clear BK198; clear HB; have BK198 := n0_; have HB := n1_; clear n0_ n1_; (try clear hb); (try clear hb2); (try clear hk); (try clear hi)))
  go_ret
  exact ⟨by first | rfl | (simp [errW_none, errW_some] <;> rfl) | (simp [*, errW_none, errW_some] <;> rfl), bwS⟩
 ·rw [if_neg c2] at H
  have c2b0 : (a0_0 == 3) = false := beq_eq_false_iff_ne.mpr c2
  have c2b1 : (a0_0 != 3) = true := bne_iff_ne.mpr c2
  obtain rfl := Option.some.inj H
  go_enter Tryd.func97, Tryd.ntmps97
  go_wp2_with (first | ((with_reducible refine gate_dst (N := 1) rfl ?_); refine box_event ?hg (N := 1) ?hd (cs := #[.int .i64 a0_0, .string a0_1]) (t := 98) ?hr ?_; (case hd => rfl); (case hg => rfl); (case hr => first | (go_simp; done) | (go_simp; rfl)); intro gb198 hg w7 hbox hb; have n0_ := Aside0.mk (below_step bw hb); have n1_ := Aside0.mk (hbox); have n2_ := Aside0.mk ((by rw [hg]; exact (below_size bw) : w.heap.size ≤ gb198)); have n3_ := Aside0.mk ((by rw [hg]; exact (below_size bw) : w.heap.size ≤ gb198)); clear HB; have HB := n0_; have BK198 := n1_; have GW198 := n2_; have GE198 := n3_; clear n0_ n1_ n2_ n3_; clear hb hbox hg; have hcz8_0 : w7.cell? ⟨gb198, 0, none⟩ = some (.int .i64 a0_0) := (blk_cell BK198.out 0).trans rfl; have hcz8_1 : w7.cell? ⟨gb198, 1, none⟩ = some (.string a0_1) := (blk_cell BK198.out 1).trans rfl; have hfz8_0 := blk_frozen BK198.out 0; have hfz8_1 := blk_frozen BK198.out 1))
  go_ret
  exact ⟨by first | rfl | (simp [errW_none, errW_some] <;> rfl) | (simp [*, errW_none, errW_some] <;> rfl), bwS⟩

end Go.Proofs.YtbjbpgmjijeppaaDoor.Fn
set_option linter.unusedVariables false
namespace Go.Proofs.YtbjbpgmjijeppaaDoor.Fn
open Go.RowKit Go.Proofs.YtbjbpgmjijeppaaDoorW.PrintWords

def strings_Join.f (l0 : List ByteArray) (a1 : ByteArray) : Option ByteArray :=
  if l0.length ≤ 140737488355328 then (if (Pl.join l0 a1).size ≤ 140737488355328 then some (Pl.join l0 a1) else none) else none

theorem strings_Join.calls (A0 : Option Addr) (c0 : Nat) (l0 : List ByteArray) (a1 : ByteArray) (r : ByteArray) (w : World) (hr0 : Kd.C Kd.string w A0 l0.length l0) (hc0 : l0.length ≤ c0) (h : strings_Join.f l0 a1 = some r) :
    Calls Tryd.prog 26 #[.slice A0 l0.length c0, .string a1] w fun e w' => e = .returned (.string r) ∧ Below w.heap.size w w' := by
  unfold strings_Join.f at h
  by_cases hs : l0.length ≤ 140737488355328
  · rw [if_pos hs] at h
    by_cases hn : (Pl.join l0 a1).size ≤ 140737488355328
    · rw [if_pos hn] at h
      have HR := Option.some.inj h
      clear h
      subst HR
      by_cases h0 : l0.length = 0
      · have e0 : l0 = [] := List.eq_nil_of_length_eq_zero h0
        subst e0
        refine (Tryd.strings_Join_none A0 c0 a1 w).mono ?_
        rintro e w' ⟨rfl, rfl⟩
        exact ⟨rfl, Below.refl _ _⟩
      · obtain ⟨bk, o, rfl, hbk, hcells⟩ := strings_at hr0 (by omega)
        exact Tryd.strings_Join bk o c0 l0 a1 w hcells hbk hs hc0 (by have e := Pl.str_size (Lib.join (l0.map fun x => x.data.toList) a1.data.toList); unfold Pl.join at hn; omega)
    · rw [if_neg hn] at h
      exact absurd h (by simp)
  · rw [if_neg hs] at h
    exact absurd h (by simp)
end Go.Proofs.YtbjbpgmjijeppaaDoor.Fn
set_option linter.unusedVariables false
set_option linter.unusedSimpArgs false
namespace Go.Proofs.YtbjbpgmjijeppaaDoor.Fn
open Go.RowKit Go.Proofs.YtbjbpgmjijeppaaDoorW.PrintWords Go.Proofs.YtbjbpgmjijeppaaDoorW.PrintLast Go.Proofs.YtbjbpgmjijeppaaDoorW.PrintMore
attribute [local go_sem high] eqA98

/-! Layer 14: the reader, in memory: its block is the newest of W0; the tokens are W0's; the boxes are its own. -/
def toBox (x : Pl.BoxL) : S31 := ⟨Pl.str x.1, ⟨Pl.str x.2.1, Pl.str x.2.2⟩⟩
structure Small (l : List Pl.Tok) : Prop where
  len : l.length ≤ 50000
  sum : (Pl.cat l).length ≤ 50000
  ok : ∀ t ∈ l, Pl.okTok t
structure RS (W0 w : World) (l : List Pl.Tok) (bx : List Pl.BoxL) : Prop where
  out : ∃ (A : Option Addr) (c : Nat) (v : Value), w.heap[W0.heap.size]? = some (.cells #[.slice A l.length c, v] 67 (0, 0)) ∧ Kd.C k98 W0 A l.length (l.map Pl.tok142) ∧ l.length ≤ c ∧ Kd.R k31 31 w (W0.heap.size + 1) (fun _ => True) v (bx.map toBox)
  below : Below W0.heap.size W0 w
  small : Small l
  many : bx.length ≤ 100
  glob : Glob W0
theorem RS.lt {W0 w : World} {l : List Pl.Tok} {bx : List Pl.BoxL} (h : RS W0 w l bx) : W0.heap.size < w.heap.size := by
  obtain ⟨A, c, v, hb, _⟩ := h.out
  exact blk_lt hb
theorem RS.keep {W0 w w' : World} {l : List Pl.Tok} {bx : List Pl.BoxL} (h : RS W0 w l bx) (hb : Below w.heap.size w w') : RS W0 w' l bx := by
  obtain ⟨⟨A, c, v, h1, h2, h3, h4⟩, h5, h6, h7, h8⟩ := h
  exact ⟨⟨A, c, v, (hb.block _ (blk_lt h1)).trans h1, h2, h3, Kd.R_below h4 hb⟩, h5.trans (hb.mono h5.size), h6, h7, h8⟩
theorem RS.globw {W0 w : World} {l : List Pl.Tok} {bx : List Pl.BoxL} (h : RS W0 w l bx) : Glob w := h.glob.below h.below
theorem tok_cell {W0 w : World} {A : Option Addr} {l : List Pl.Tok} (h : Kd.C k98 W0 A l.length (l.map Pl.tok142)) (hB : Below W0.heap.size W0 w) {i : Nat} {t : Pl.Tok} {r : List Pl.Tok} (hd : l.drop i = t :: r) :
    ∃ ad, A = some ad ∧ w.cell? (ad.add (i * 2)) = some (.int .i64 t.1) ∧ w.cell? ⟨(ad.add (i * 2)).block, (ad.add (i * 2)).off + 1, none⟩ = some (.string (Pl.str t.2)) := by
  have hi : i < l.length := by
    rcases Nat.lt_or_ge i l.length with h' | h'
    · exact h'
    · rw [List.drop_of_length_le h'] at hd; cases hd
  obtain ⟨ad, e, h0, h1⟩ := at_T98 h (i : Int) (by omega) (by omega)
  have hr : rd_T98 (l.map Pl.tok142) (i : Int) = Pl.tok142 t := by
    unfold rd_T98
    have h3 : l[i]? = some t := by
      have := congrArg List.head? hd
      rw [List.head?_drop] at this
      exact this
    rw [Int.toNat_natCast, List.getD_eq_getElem?_getD, List.getElem?_map, h3]
    rfl
  rw [hr] at h0 h1
  rw [Int.toNat_natCast] at h0 h1
  exact ⟨ad, e, pw_cell_below hB h0, pw_cell_below hB h1⟩
set_option maxHeartbeats 4000000 in
set_option maxRecDepth 100000 in
theorem at_calls (W0 w : World) (l : List Pl.Tok) (bx : List Pl.BoxL) (s : ByteArray) (h : RS W0 w l bx) :
    Calls Tryd.prog 61 #[.pointer (some ⟨W0.heap.size, 0, none⟩), .string s] w fun e w' => e = .returned (.bool (Pl.headIs l (Pl.bs s))) ∧ w' = w := by
  obtain ⟨⟨A, c, v, hb, hC, hc, hR⟩, hB, hS, hM, hG⟩ := h
  have hu := Tryd.underlying98
  have hc0 : w.cell? ⟨W0.heap.size, 0, none⟩ = some (.slice A l.length c) := (blk_cell hb 0).trans rfl
  cases l with
  | nil =>
    clear hb hC hR hB hS hM hG
    generalize W0.heap.size = R at hc0 ⊢
    go_enter Tryd.func61, Tryd.ntmps61
    go_wp2
    go_ret
    exact ⟨rfl, rfl⟩
  | cons t r =>
    obtain ⟨ad, rfl, h0, h1⟩ := tok_cell hC hB (i := 0) (t := t) (r := r) rfl
    rw [Nat.zero_mul, Addr.add_zero'] at h0 h1
    clear hb hC hR hB hS hM hG
    generalize W0.heap.size = R at hc0 ⊢
    have c1 : decide ((0 : Int) < ((t :: r).length : Int)) = true := decide_eq_true (by simp only [List.length_cons]; omega)
    have c2 : ((0 : Int) < ((t :: r).length : Int)) = True := eq_true (by simp only [List.length_cons]; omega)
    have c3 : (0 < (t :: r).length) = True := eq_true (by simp)
    generalize (t :: r).length = n at hc0 hc c1 c2 c3 ⊢
    have hres : Pl.headIs (t :: r) (Pl.bs s) = (t.1 == 3 && ((Pl.str t.2).toList == s.toList)) := by
      show Pl.isT t (Pl.bs s) = _
      unfold Pl.isT
      rw [Pl.toList_str, Pl.toList_bs]
    rw [hres]
    go_enter Tryd.func61, Tryd.ntmps61
    go_wp2
    go_ret
    exact ⟨rfl, rfl⟩
theorem RS.cut {W0 w : World} {l : List Pl.Tok} {bx : List Pl.BoxL} {A : Option Addr} {c : Nat} {v : Value} (hb : w.heap[W0.heap.size]? = some (.cells #[.slice A l.length c, v] 67 (0, 0))) (hC : Kd.C k98 W0 A l.length (l.map Pl.tok142)) (hc : l.length ≤ c) (hR : Kd.R k31 31 w (W0.heap.size + 1) (fun _ => True) v (bx.map toBox))
    (hB : Below W0.heap.size W0 w) (hS : Small l) (hM : bx.length ≤ 100) (hG : Glob W0) (m : Nat) (hm : m ≤ l.length) (A' : Option Addr) (n' c' : Nat) (hA : A' = if c = m then A else A.map (·.add (m * 2))) (hn : n' = l.length - m) (hc' : c' = c - m) :
    RS W0 (w.setCell ⟨W0.heap.size, 0, none⟩ (.slice A' n' c')) (l.drop m) bx := by
  subst hA hn hc'
  have h1 := Kd.C_drop (c := c) (m := m) (show Kd.C k98 W0 A (l.map Pl.tok142).length (l.map Pl.tok142) by rw [List.length_map]; exact hC) (by rw [List.length_map]; exact hm) (by rw [List.length_map]; exact hc)
  rw [← List.map_drop, List.length_map] at h1
  refine ⟨⟨_, c - m, v, ?_, h1, by rw [List.length_drop]; omega, ?_⟩, hB.setCell (p := ⟨W0.heap.size, 0, none⟩) (Nat.le_refl _) _, ⟨?_, ?_, ?_⟩, hM, hG⟩
  · have := blk_put hb 0 (.slice (if c = m then A else A.map (·.add (m * 2))) (l.length - m) (c - m)) rfl
    rw [List.length_drop]
    exact this
  · exact Kd.R_mono (Kd.R_far (p := ⟨W0.heap.size, 0, none⟩) (Kd.R_bound hR) (fun k hk => by show k ≠ W0.heap.size; have := hk.2.1; omega) _) (fun _ _ => trivial)
  · have := hS.len
    rw [List.length_drop]; omega
  · have h2 := hS.sum
    have h3 : Pl.cat l = Pl.cat (l.take m) ++ Pl.cat (l.drop m) := by rw [← Pl.cat_app, List.take_append_drop]
    rw [h3, List.length_append] at h2
    omega
  · exact fun t ht => hS.ok t (List.mem_of_mem_drop ht)
set_option maxHeartbeats 4000000 in
set_option maxRecDepth 100000 in
theorem follows_calls (W0 w : World) (l : List Pl.Tok) (bx : List Pl.BoxL) (n : Nat) (s : ByteArray) (h : RS W0 w l bx) :
    Calls Tryd.prog 58 #[.pointer (some ⟨W0.heap.size, 0, none⟩), .int .i64 n, .string s] w fun e w' => e = .returned (.bool (Pl.headIs (l.drop n) (Pl.bs s))) ∧ w' = w := by
  obtain ⟨⟨A, c, v, hb, hC, hc, hR⟩, hB, hS, hM, hG⟩ := h
  have hu := Tryd.underlying98
  have hc0 : w.cell? ⟨W0.heap.size, 0, none⟩ = some (.slice A l.length c) := (blk_cell hb 0).trans rfl
  cases hd : l.drop n with
  | nil =>
    have hl : l.length ≤ n := by
      have := congrArg List.length hd
      rw [List.length_drop, List.length_nil] at this
      omega
    have c1 : decide ((n : Int) < (l.length : Int)) = false := decide_eq_false (by omega)
    have c2 : decide (n < l.length) = false := decide_eq_false (by omega)
    clear hb hC hR hB hS hM hG hl
    generalize W0.heap.size = R at hc0 ⊢
    generalize l.length = ln at hc0 c1 c2 ⊢
    go_enter Tryd.func58, Tryd.ntmps58
    go_wp2
    go_ret
    exact ⟨rfl, rfl⟩
  | cons t r =>
    obtain ⟨ad, rfl, h0, h1⟩ := tok_cell hC hB hd
    have hl : n < l.length := by
      have := congrArg List.length hd
      rw [List.length_drop, List.length_cons] at this
      omega
    clear hb hC hR hB hM hG
    have hz := hS.len
    have c1 : decide ((n : Int) < (l.length : Int)) = true := decide_eq_true (by omega)
    have c2 : ((n : Int) < (l.length : Int)) = True := eq_true (by omega)
    have c3 : (n < l.length) = True := eq_true (by omega)
    have c4 : decide (n < l.length) = true := decide_eq_true (by omega)
    have c5 : ((0 : Int) ≤ (n : Int)) = True := eq_true (by omega)
    clear hS hz
    generalize W0.heap.size = R at hc0 ⊢
    generalize l.length = ln at hc0 hc hl c1 c2 c3 c4 ⊢
    have hres : Pl.headIs (t :: r) (Pl.bs s) = (t.1 == 3 && ((Pl.str t.2).toList == s.toList)) := by
      show Pl.isT t (Pl.bs s) = _
      unfold Pl.isT
      rw [Pl.toList_str, Pl.toList_bs]
    rw [hres]
    go_enter Tryd.func58, Tryd.ntmps58
    go_wp2
    go_ret
    exact ⟨rfl, rfl⟩
set_option maxHeartbeats 4000000 in
set_option maxRecDepth 100000 in
theorem take_calls (W0 w : World) (l : List Pl.Tok) (bx : List Pl.BoxL) (s : ByteArray) (h : RS W0 w l bx) :
    Calls Tryd.prog 35 #[.pointer (some ⟨W0.heap.size, 0, none⟩), .string s] w fun e w' => e = .returned (.bool (Pl.headIs l (Pl.bs s))) ∧ RS W0 w' (if Pl.headIs l (Pl.bs s) = true then l.tail else l) bx := by
  have hat := at_calls W0 w l bx s h
  have H := Aside0.mk h
  obtain ⟨⟨A, c, v, hb, hC, hc, hR⟩, hB, hS, hM, hG⟩ := h
  have hc0 : w.cell? ⟨W0.heap.size, 0, none⟩ = some (.slice A l.length c) := (blk_cell hb 0).trans rfl
  have hf0 := blk_frozen hb 0
  cases hq : Pl.headIs l (Pl.bs s) with
  | false =>
    rw [hq] at hat
    clear hb hC hR hB hS hM hG hc0 hf0
    generalize hW : W0.heap.size = R at hat ⊢
    go_enter Tryd.func35, Tryd.ntmps35
    go_wp2_with (go_at_call 61; refine hat.mono ?_; rintro e w' ⟨rfl, rfl⟩)
    go_ret
    exact ⟨rfl, H.out⟩
  | true =>
    rw [hq] at hat
    obtain ⟨t, r, rfl, ht⟩ := Pl.headIs_ne hq
    obtain ⟨ad, rfl, h0, h1⟩ := tok_cell hC hB (i := 0) (t := t) (r := r) rfl
    have c1 : ((1 : Int) ≤ ((t :: r).length : Int)) = True := eq_true (by simp only [List.length_cons]; omega)
    have c2 : (((t :: r).length : Int) ≤ (c : Int)) = True := eq_true (by omega)
    have c3 : ((1 : Int) ≤ (c : Int)) = True := eq_true (by simp only [List.length_cons] at hc; omega)
    have c4 : (1 ≤ (t :: r).length) = True := eq_true (by simp)
    have c5 : ((t :: r).length ≤ c) = True := eq_true hc
    have c6 : (1 ≤ c) = True := eq_true (by simp only [List.length_cons] at hc; omega)
    have HC := Aside0.mk (fun A' n' c' h1 h2 h3 => RS.cut hb hC hc hR hB hS hM hG 1 (by simp) A' n' c' h1 h2 h3)
    have hcc := Aside0.mk hc
    clear hb hC hR hB hS hM hG h0 h1 hc
    clear H
    generalize hn : (t :: r).length = n at hat hc0 c1 c2 c4 c5 HC hcc ⊢
    generalize hW : W0.heap.size = R at hat hc0 hf0 HC ⊢
    go_enter Tryd.func35, Tryd.ntmps35
    go_wp2_with (go_at_call 61; refine hat.mono ?_; rintro e w' ⟨rfl, rfl⟩)
    all_goals
      go_ret
      exact ⟨rfl, HC.out _ _ _ (by first | rfl | (simp [*]; done) | (simp [*]; rfl)) (by first | rfl | (simp; done) | omega) (by first | rfl | (simp; done) | omega)⟩
end Go.Proofs.YtbjbpgmjijeppaaDoor.Fn
set_option linter.unusedVariables false
set_option linter.unusedSimpArgs false
namespace Go.Proofs.YtbjbpgmjijeppaaDoor.Fn
open Go.RowKit Go.Proofs.YtbjbpgmjijeppaaDoorW.PrintWords Go.Proofs.YtbjbpgmjijeppaaDoorW.PrintLast Go.Proofs.YtbjbpgmjijeppaaDoorW.PrintMore
attribute [local go_sem high] eqA98


/-! Layer 14: how many words stand at the front, and what they say -/
theorem join_len : ∀ l : List Pl.Tok, (Lib.join (l.map (·.2)) [32]).length ≤ (Pl.cat l).length + l.length
  | [] => by simp [Pl.join_nil]
  | [t] => by rw [List.map_cons, List.map_nil, Pl.join_one]; simp [Pl.cat]
  | t :: u :: r => by
    have ih := join_len (u :: r)
    have e : Pl.cat (t :: u :: r) = t.2 ++ Pl.cat (u :: r) := by simp [Pl.cat]
    have e2 : Lib.join ((t :: u :: r).map (·.2)) [32] = t.2 ++ [32] ++ Lib.join ((u :: r).map (·.2)) [32] := Pl.join_cons2 _ _ _ _
    rw [e2, e]
    simp only [List.length_append, List.length_cons, List.length_nil] at ih ⊢
    omega
def txs (l : List Pl.Tok) : List ByteArray := l.map fun t => Pl.str t.2
theorem join_call (l : List Pl.Tok) (hS : Small l) (i : Nat) (b : Nat) (W : World) (v : Value) (h : Kd.R Kd.string 9 W b (fun _ => True) v (txs (l.take i))) :
    ∃ A c n q, v = .slice A n c ∧ Hid (n = (l.take i).length) ∧ Hid (q = Pl.str (Lib.join ((l.take i).map (·.2)) [32])) ∧ Hid (∀ W1, Below W.heap.size W W1 → Calls Tryd.prog 26 #[.slice A n c, .string ⟨#[32]⟩] W1 fun e w' => e = .returned (.string q) ∧ Below W1.heap.size W1 w') := by
  obtain ⟨A, c, rfl⟩ := Kd.R_slice h
  have hlen : (txs (l.take i)).length = (l.take i).length := List.length_map _
  refine ⟨A, c, _, _, by rw [hlen], hid rfl, hid rfl, hid (fun W1 hW1 => ?_)⟩
  obtain ⟨-, hc, hC⟩ := Kd.R_reads' h
  have hl : (l.take i).length ≤ 50000 := Nat.le_trans (by rw [List.length_take]; omega) hS.len
  have hs : (Pl.cat (l.take i)).length ≤ 50000 := by
    have h2 := hS.sum
    have h3 : Pl.cat l = Pl.cat (l.take i) ++ Pl.cat (l.drop i) := by rw [← Pl.cat_app, List.take_append_drop]
    rw [h3, List.length_append] at h2
    omega
  have hj : Pl.join (txs (l.take i)) ⟨#[32]⟩ = Pl.str (Lib.join ((l.take i).map (·.2)) [32]) := by
    unfold Pl.join txs
    rw [List.map_map]
    exact congrArg Pl.str (congrArg (Lib.join · [32]) (List.map_congr_left (fun t _ => Pl.bs_str t.2)))
  have hjl := join_len (l.take i)
  have := strings_Join.calls A c (txs (l.take i)) ⟨#[32]⟩ (Pl.join (txs (l.take i)) ⟨#[32]⟩) W1 (Kd.C_below hC hW1) hc (by
    unfold strings_Join.f
    rw [if_pos (by rw [hlen]; omega), if_pos (by rw [hj, Pl.str_size]; omega)])
  rw [hlen, hj] at this
  exact this
theorem take_while {l : List Pl.Tok} {i : Nat} (h : (l.take i).all Pl.wordT = true) (h2 : l.drop i = [] ∨ ∃ t r, l.drop i = t :: r ∧ Pl.wordT t = false) : l.takeWhile Pl.wordT = l.take i := by
  have := (Pl.span_all Pl.wordT (l.drop i) h2 (l.take i) (fun t ht => List.all_eq_true.1 h t ht)).1
  rwa [List.take_append_drop] at this
set_option maxHeartbeats 8000000 in
set_option maxRecDepth 100000 in
theorem words_calls (W0 w : World) (l : List Pl.Tok) (bx : List Pl.BoxL) (h : RS W0 w l bx) :
    Calls Tryd.prog 57 #[.pointer (some ⟨W0.heap.size, 0, none⟩)] w fun e w' => e = .returned (.tuple #[.int .i64 ((l.takeWhile Pl.wordT).length : Nat), .string (Pl.str (Pl.nameL l))]) ∧ Below w.heap.size w w' := by
  obtain ⟨⟨A, c, v, hb, hC, hc, hR⟩, hB, hS, hM, hG⟩ := h
  have hu := Tryd.underlying98
  have hc0 : w.cell? ⟨W0.heap.size, 0, none⟩ = some (.slice A l.length c) := (blk_cell hb 0).trans rfl
  have HC := hid hC
  have HB0 := hid hB
  have HS := hid hS
  have hz := hS.len
  clear hb hC hR hB hS hM hG
  go_enter Tryd.func57, Tryd.ntmps57
  go_wp2
  go_loopw [4, 12] (fun v4 v12 wr => ∃ i : Nat, v12 = .int .i64 i ∧ i ≤ l.length ∧ Hid ((l.take i).all Pl.wordT = true) ∧ Hid (Kd.R Kd.string 9 wr w.heap.size (fun _ => True) v4 (txs (l.take i))) ∧ Hid (Below w.heap.size w wr)) (fun _ v12 _ => l.length - (intOf v12).toNat)
  case atStart => exact ⟨0, rfl, Nat.zero_le _, hid rfl, hid (Kd.R_nil _ _ _ _ _), hid (Below.refl _ _)⟩
  case round =>
    obtain ⟨i, rfl, hi, HW, HR, HBw⟩ := hrel
    cases hd : l.drop i with
    | nil =>
      have hl : l.length ≤ i := by
        have := congrArg List.length hd
        rw [List.length_drop, List.length_nil] at this
        omega
      have c1 : decide ((i : Int) < (l.length : Int)) = false := decide_eq_false (by omega)
      have c1n : decide (i < l.length) = false := decide_eq_false (by omega)
      obtain ⟨A2, c2, n2, q2, rfl, hn2, hq2, hj⟩ := join_call l HS.out i _ wr _ HR.out
      have htw := hid (take_while HW.out (.inl hd))
      clear hl hz hi hd hc
      go_wp2_with (go_at_call 26; refine (hj.out _ (Below.refl _ _)).mono ?_; rintro e w' ⟨rfl, hb'⟩)
      go_ret2
      refine ⟨?_, HBw.out.trans (hb'.mono HBw.out.size)⟩
      unfold Pl.nameL
      rw [htw.out, hn2.out, hq2.out]
      rfl
    | cons t r =>
      have hl : i < l.length := by
        have := congrArg List.length hd
        rw [List.length_drop, List.length_cons] at this
        omega
      obtain ⟨ad, rfl, h0, h1⟩ := tok_cell HC.out (HB0.out.trans (HBw.out.mono HB0.out.size)) hd
      have c1 : decide ((i : Int) < (l.length : Int)) = true := decide_eq_true (by omega)
      have c1n : decide (i < l.length) = true := decide_eq_true (by omega)
      have c2 : ((i : Int) < (l.length : Int)) = True := eq_true (by omega)
      have c3 : (i < l.length) = True := eq_true (by omega)
      have c5 : ((0 : Int) ≤ (i : Int)) = True := eq_true (by omega)
      have hsnoc : l.take (i + 1) = l.take i ++ [t] := by
        rw [List.take_succ_eq_append_getElem hl]
        congr 2
        have := List.getElem?_drop (xs := l) (i := i) (j := 0)
        rw [hd] at this
        simpa [List.getElem?_eq_getElem hl] using this.symm
      have HSN := hid hsnoc
      have HD := hid hd
      clear hsnoc hd
      by_cases hk : t.1 = 3
      · obtain ⟨A2, c2', n2, q2, rfl, hn2, hq2, hj⟩ := join_call l HS.out i _ wr _ HR.out
        have htw := hid (take_while HW.out (.inr ⟨t, r, HD.out, by unfold Pl.wordT; rw [hk]; rfl⟩))
        rw [hk] at h0
        go_wp2_with (first
          | ((with_reducible refine gate_dst (N := 6) rfl ?_); refine box_event ?hg (N := 6) ?hd (cs := #[.int .i64 0, .string (⟨#[]⟩ : ByteArray)]) (t := 98) ?hr ?_; (case hd => rfl); (case hg => rfl); (case hr => first | (go_simp; done) | (go_simp; rfl)); intro g hg w7 hbox hb; have b0 := (blk_cell hbox 0).trans rfl; have b1 := (blk_cell hbox 1).trans rfl; have bf0 := blk_frozen hbox 0; have bf1 := blk_frozen hbox 1; have HBX := hid hb; have HG := hid hg; clear hb hbox hg)
          | (go_at_call 26; have hB1 : Below wr.heap.size wr ((w7.setCell ⟨g, 0, none⟩ (.int .i64 3)).setCell ⟨g, 1, none⟩ (.string (Pl.str t.2))) := (HBX.out.setCell (p := ⟨g, 0, none⟩) (Nat.le_of_eq HG.out.symm) _).setCell (p := ⟨g, 1, none⟩) (Nat.le_of_eq HG.out.symm) _; refine (hj.out _ hB1).mono ?_; rintro e w' ⟨rfl, hb'⟩))
        go_ret2
        refine ⟨?_, HBw.out.trans ((hB1.trans (hb'.mono hB1.size)).mono HBw.out.size)⟩
        unfold Pl.nameL
        rw [htw.out, hn2.out, hq2.out]
        rfl
      · have k1 : (t.1 == 3) = false := beq_eq_false_iff_ne.2 hk
        have hp : Hid (Pl.wordT t = true) := hid (by unfold Pl.wordT; exact bne_iff_ne.2 hk)
        have hlen : (txs (l.take i)).length = i := by rw [txs, List.length_map, List.length_take]; omega
        go_wp2_with (first
          | ((with_reducible refine gate_dst (N := 6) rfl ?_); refine box_event ?hg (N := 6) ?hd (cs := #[.int .i64 0, .string (⟨#[]⟩ : ByteArray)]) (t := 98) ?hr ?_; (case hd => rfl); (case hg => rfl); (case hr => first | (go_simp; done) | (go_simp; rfl)); intro g hg w7 hbox hb; have b0 := (blk_cell hbox 0).trans rfl; have b1 := (blk_cell hbox 1).trans rfl; have bf0 := blk_frozen hbox 0; have bf1 := blk_frozen hbox 1; have HGL := hid (blk_lt hbox); have HBW := hid (((HBw.out.trans (hb.mono HBw.out.size)).setCell (p := ⟨g, 0, none⟩) (show w.heap.size ≤ g by have := HBw.out.size; omega) (.int .i64 t.1)).setCell (p := ⟨g, 1, none⟩) (show w.heap.size ≤ g by have := HBw.out.size; omega) (.string (Pl.str t.2))); have HBX := hid hb; have HG := hid hg; clear hb hbox hg)
          | ((with_reducible refine gate_builtin (b := .append) (xs := #[.tmp 19, .tmp 22]) rfl ?_); at_builtin; refine Kd.R_append Kd.string (w0 := w) w.heap.size rfl (.tmp 19) (.tmp 22) 50 9 (.string ⟨#[]⟩) 16 rfl Tryd.underlying50 info9 rfl (by decide) (by omega) u4 (txs (l.take i)) (Pl.str t.2) [.string (Pl.str t.2)] (fun k => k ≠ g) (fun _ => False) rfl (by first | rfl | (go_simp; done) | (go_simp; rfl)) ?aP (fun _ hk => hk.elim) ?aF ?aO ?aB ?aS ?aL ?_; (case aP => exact rfl); (case aF => exact (fun k hk => by have h2 : w7.heap.size ≤ k := (by simpa using hk); have := HGL.out; show k ≠ g; omega)); (case aO => exact Kd.R_far (p := ⟨g, 1, none⟩) (Kd.R_far (p := ⟨g, 0, none⟩) (Kd.R_below (Kd.R_mono (Kd.R_bound HR.out) (fun k hk => by have := hk.2.2.1; have := HG.out; show k ≠ g; omega)) HBX.out) (fun _ hk => hk) _) (fun _ hk => hk) _); (case aB => exact HBW.out); (case aS => exact HBW.out.size); (case aL => rw [hlen]; omega); intro v1 w1 ho hb1 hg1 hat1; have HO1 := hid ho; have HB1 := hid hb1; clear ho hb1 hg1 hat1))
        go_roundw
        case rel =>
          exact ⟨i + 1, by go_num, by omega, hid (by rw [HSN.out, List.all_append, HW.out]; simpa using hp.out), hid (by rw [HSN.out]; unfold txs; rw [List.map_append]; exact Kd.R_mono HO1.out (fun _ _ => trivial)), HB1⟩
        case measure => simp [intOf]; omega
end Go.Proofs.YtbjbpgmjijeppaaDoor.Fn
set_option linter.unusedVariables false
set_option linter.unusedSimpArgs false
namespace Go.Proofs.YtbjbpgmjijeppaaDoor.Fn
open Go.RowKit Go.Proofs.YtbjbpgmjijeppaaDoorW.PrintWords Go.Proofs.YtbjbpgmjijeppaaDoorW.PrintLast Go.Proofs.YtbjbpgmjijeppaaDoorW.PrintMore
attribute [local go_sem high] eqA98

/-! Layer 14: an address, taken away from the front -/
set_option maxRecDepth 100000 in
theorem stop_byte (c : UInt8) : Lib.contains [44, 59, 58, 60, 62] [c] = Pl.stopB c := Pl.forall_byte (p := fun c => Lib.contains [44, 59, 58, 60, 62] [c] = Pl.stopB c) (by decide +kernel) c
theorem stops_is {t : Pl.Tok} (h : Pl.okTok t) : mbx_stops.f t.1 (Pl.str t.2) = some (Pl.stopT t) := by
  unfold mbx_stops.f Pl.stopT
  by_cases h3 : t.1 = 3
  · obtain ⟨c, hc⟩ := h h3
    rw [if_pos h3, hc, h3]
    unfold strings_Contains.f
    rw [if_pos (by decide), Option.bind_some]
    show some (Lib.contains [44, 59, 58, 60, 62] (Pl.bs (Pl.str [c]))) = some (((3 : Int) == 3) && Pl.stopB c)
    rw [Pl.bs_str, stop_byte]
    rfl
  · rw [if_neg h3, show (t.1 == 3) = false from beq_eq_false_iff_ne.2 h3]
    rfl
theorem take_non {l : List Pl.Tok} {i : Nat} (h : (l.take i).all Pl.nonT = true) (h2 : l.drop i = [] ∨ ∃ t r, l.drop i = t :: r ∧ Pl.nonT t = false) : l.takeWhile Pl.nonT = l.take i ∧ l.dropWhile Pl.nonT = l.drop i := by
  have := Pl.span_all Pl.nonT (l.drop i) h2 (l.take i) (fun t ht => List.all_eq_true.1 h t ht)
  rwa [List.take_append_drop] at this
theorem small_take {l : List Pl.Tok} (h : Small l) (i : Nat) : Small (l.take i) := by
  have h2 := h.sum
  have h3 : Pl.cat l = Pl.cat (l.take i) ++ Pl.cat (l.drop i) := by rw [← Pl.cat_app, List.take_append_drop]
  rw [h3, List.length_append] at h2
  exact ⟨Nat.le_trans (by rw [List.length_take]; omega) h.len, by omega, fun t ht => h.ok t (List.mem_of_mem_take ht)⟩
theorem of_call {W0 : World} {l : List Pl.Tok} {A : Option Addr} {c : Nat} (hC : Kd.C k98 W0 A l.length (l.map Pl.tok142)) (hc : l.length ≤ c) (hS : Small l) (i : Nat) (hi : i ≤ l.length) {W : World} (hB : Below W0.heap.size W0 W) :
    Calls Tryd.prog 98 #[.slice A i c] W fun e w' => e = .returned (.tuple #[.agg #[.string (Pl.ofT (l.take i)).1, .string (Pl.ofT (l.take i)).2.1], .int .i64 (Pl.ofT (l.take i)).2.2]) ∧ Below W.heap.size W w' := by
  have hl : (l.take i).length = i := by rw [List.length_take]; omega
  have hC1 := Kd.C_take (m := i) (show Kd.C k98 W0 A (l.map Pl.tok142).length (l.map Pl.tok142) by rw [List.length_map]; exact hC) (by rw [List.length_map]; exact hi)
  rw [← List.map_take] at hC1
  have hs := small_take hS i
  have h := addr_Of.calls (2 * (l.take i).length + 400000) A c ((l.take i).map Pl.tok142) _ _ _ W (Kd.C_below hC1 hB) (by rw [List.length_map, hl]; omega) (Pl.addrOf_is (l.take i) (by have := hs.len; omega) (by have := hs.sum; omega) _ (Nat.le_refl _))
  rw [List.length_map, hl] at h
  exact h
theorem RS.cutW {W0 w : World} {l : List Pl.Tok} {bx : List Pl.BoxL} (h : RS W0 w l bx) {A : Option Addr} {n c : Nat} {v : Value} (hb : w.heap[W0.heap.size]? = some (.cells #[.slice A n c, v] 67 (0, 0))) (m : Nat) (hm : m ≤ l.length) (A' : Option Addr) (n' c' : Nat) (hA : A' = if c = m then A else A.map (·.add (m * 2))) (hn : n' = n - m) (hc' : c' = c - m) :
    RS W0 (w.setCell ⟨W0.heap.size, 0, none⟩ (.slice A' n' c')) (l.drop m) bx := by
  obtain ⟨⟨A1, c1, v1, hb1, hC, hc, hR⟩, hB, hS, hM, hG⟩ := h
  rw [hb] at hb1
  simp only [Option.some.injEq, Obj.cells.injEq, Array.mk.injEq, List.cons.injEq, Value.slice.injEq, and_true] at hb1
  obtain ⟨⟨rfl, rfl, rfl⟩, rfl⟩ := hb1
  exact RS.cut hb hC hc hR hB hS hM hG m hm A' n' c' hA hn hc'
theorem RS.boxes {W0 w : World} {l : List Pl.Tok} {bx : List Pl.BoxL} (h : RS W0 w l bx) {x v : Value} (hb : w.heap[W0.heap.size]? = some (.cells #[x, v] 67 (0, 0))) : Kd.R k31 31 w (W0.heap.size + 1) (fun _ => True) v (bx.map toBox) := by
  obtain ⟨⟨A1, c1, v1, hb1, hC, hc, hR⟩, hB, hS, hM, hG⟩ := h
  rw [hb] at hb1
  simp only [Option.some.injEq, Obj.cells.injEq, Array.mk.injEq, List.cons.injEq, and_true] at hb1
  obtain ⟨rfl, rfl⟩ := hb1
  exact hR
theorem RS.grow {W0 w w1 : World} {l : List Pl.Tok} {bx : List Pl.BoxL} (h : RS W0 w l bx) (hb : Below (W0.heap.size + 1) w w1) {v1 : Value} {nm a b : ByteArray} (hR : Kd.R k31 31 w1 (W0.heap.size + 1) (fun _ => True) v1 (bx.map toBox ++ [(⟨nm, ⟨a, b⟩⟩ : S31)])) (hn : ¬ bx.length = 100) :
    RS W0 (w1.setCell ⟨W0.heap.size, 1, none⟩ v1) l (bx ++ [(Pl.bs nm, Pl.bs a, Pl.bs b)]) := by
  obtain ⟨⟨A1, c1, v, hb1, hC, hc, _⟩, hB, hS, hM, hG⟩ := h
  refine ⟨⟨A1, c1, v1, blk_put ((hb.block W0.heap.size (Nat.lt_succ_self _)).trans hb1) 1 v1 rfl, hC, hc, ?_⟩, (hB.trans (hb.mono (Nat.le_succ _))).setCell (p := ⟨W0.heap.size, 1, none⟩) (Nat.le_refl _) _, hS, by rw [List.length_append, List.length_singleton]; omega, hG⟩
  rw [List.map_append, List.map_singleton, show toBox (Pl.bs nm, Pl.bs a, Pl.bs b) = (⟨nm, ⟨a, b⟩⟩ : S31) by unfold toBox; simp only [Pl.str_bs]]
  exact Kd.R_mono (Kd.R_far (p := ⟨W0.heap.size, 1, none⟩) (Kd.R_bound hR) (fun k hk => by show k ≠ W0.heap.size; have := hk.2.1; omega) _) (fun _ _ => trivial)
def mbx_address.T : Bool × List (List Nat × List Nat) := (true,
  [([], []), ([], []), ([1], [1]), ([2], [2]), ([3], [3]), ([], []), ([], []), ([5, 6], [5, 6]), ([7], [7]),
    ([4, 8], [4, 8]), ([0, 0, 1, 2, 3, 4, 5, 6, 7, 8, 9], [0]), ([10, 0, 1, 2, 3, 4, 5, 6, 7, 8, 9], [10]),
    ([11, 9, 9, 0, 1, 2, 3, 4, 5, 6, 7, 8, 9], [9, 11])])
def mbx_address.B : List Nat := [0, 0, 2, 6, 14, 0, 0, 96, 224, 510, 1023, 2047, 4095]
theorem mbx_address.tab : rtab .any (opsOf Tryd.f83 10) = mbx_address.T := by kernel_rfl
theorem mbx_address.bits : waitsOk mbx_address.T.2 mbx_address.B = true := by kernel_rfl
set_option maxHeartbeats 8000000 in
set_option maxRecDepth 100000 in
theorem address_calls (W0 w : World) (l : List Pl.Tok) (bx : List Pl.BoxL) (nm : ByteArray) (h : RS W0 w l bx) :
    Calls Tryd.prog 83 #[.pointer (some ⟨W0.heap.size, 0, none⟩), .string nm] w fun e w' => e = .returned (.int .i64 (Pl.addressM (Pl.bs nm) l bx).2) ∧ ((Pl.addressM (Pl.bs nm) l bx).2 = 0 → RS W0 w' (Pl.addressM (Pl.bs nm) l bx).1.1 (Pl.addressM (Pl.bs nm) l bx).1.2) ∧ Below W0.heap.size W0 w' := by
  have hz := h.small.len
  have H := hid h
  have hz0 := hid h.lt
  clear h
  go_enter Tryd.func83, Tryd.ntmps83
  go_wp2
  go_loopw [5] (fun v5 wr => ∃ i : Nat, v5 = .int .i64 i ∧ i ≤ l.length ∧ Hid ((l.take i).all Pl.nonT = true) ∧ Hid (RS W0 wr l bx)) (fun v5 _ => l.length - (intOf v5).toNat)
  case atStart => exact ⟨0, rfl, Nat.zero_le _, hid rfl, H⟩
  case round =>
    clear H hz0
    obtain ⟨i, rfl, hi, HW, H⟩ := hrel
    obtain ⟨⟨A, c, v, hb, hC, hc, hR⟩, hB, hS, hM, hG⟩ := H.out
    have hu := Tryd.underlying98
    have hu2 := Tryd.underlying29
    have hc0 : wr.cell? ⟨W0.heap.size, 0, none⟩ = some (.slice A l.length c) := (blk_cell hb 0).trans rfl
    cases hd : l.drop i with
    | nil =>
      have hl : l.length ≤ i := by
        have := congrArg List.length hd
        rw [List.length_drop, List.length_nil] at this
        omega
      have c1 : decide ((i : Int) < (l.length : Int)) = false := decide_eq_false (by omega)
      have c1n : decide (i < l.length) = false := decide_eq_false (by omega)
      clear hl
      obtain ⟨Ab, cb, nb, rfl, hnb⟩ : ∃ Ab cb nb, v = .slice Ab nb cb ∧ Hid (nb = bx.length) := by
        obtain ⟨Ab, cb, e⟩ := Kd.R_slice hR
        exact ⟨Ab, cb, _, e, hid (List.length_map _)⟩
      have htw := hid (take_non HW.out (.inl hd))
      have hof := hid (fun W1 (hB1 : Below W0.heap.size W0 W1) => of_call hC hc hS i hi hB1)
      obtain ⟨⟨a, b, e0⟩, hres⟩ : ∃ x, Pl.ofT (l.take i) = x := ⟨_, rfl⟩
      rw [hres] at hof
      have hadr : Hid (Pl.addressM (Pl.bs nm) l bx = if e0 ≠ 0 then Pl.failM e0 else if bx.length = 100 then Pl.failM 8 else ((l.drop i, bx ++ [(Pl.bs nm, Pl.bs a, Pl.bs b)]), 0)) := by
        refine hid ?_
        unfold Pl.addressM
        rw [htw.out.1, htw.out.2, hres]
      have c6 : ((i : Int) ≤ (c : Int)) = True := eq_true (by omega)
      have c7 : (i ≤ c) = True := eq_true (by omega)
      have c8 : ((0 : Int) ≤ (i : Int)) = True := eq_true (by omega)
      have c9 : ((i : Int) ≤ (l.length : Int)) = True := eq_true (by omega)
      have c10 : (i ≤ l.length) = True := eq_true (by omega)
      have c11 : ((l.length : Int) ≤ (c : Int)) = True := eq_true (by omega)
      have c12 : (l.length ≤ c) = True := eq_true (by omega)
      have HBK := hid hb
      have hRlt := hid H.out.lt
      have hcc := hid hc
      have hii := hid hi
      have hzz := hid hz
      have HC := hid hC
      have HSM := hid hS
      have HMM := hid hM
      have HGG := hid hG
      clear hb hC hR hB hS hM hG hi hz hc hd
      have H2 := H
      have HBK2 := HBK
      by_cases he : e0 = 0
      case neg =>
        have ce : (e0 != 0) = true := bne_iff_ne.2 he
        go_wp2_with (first
          | (go_at_call 98; refine (hof.out _ H2.out.below).mono ?_; rintro e w5 ⟨rfl, b5⟩; have H5 := hid (H2.out.keep b5); have HBK5 := hid ((b5.block W0.heap.size H2.out.lt).trans HBK2.out))
          | ((with_reducible refine gate_dst (N := 6) rfl ?_); refine box_event ?hg (N := 6) ?hd (cs := #[.string (⟨#[]⟩ : ByteArray), .string (⟨#[]⟩ : ByteArray)]) (t := 29) ?hr ?_; (case hd => rfl); (case hg => rfl); (case hr => first | (go_simp; done) | (go_simp; rfl)); intro g hg w7 hbox hb; have b0 := (blk_cell hbox 0).trans rfl; have b1 := (blk_cell hbox 1).trans rfl; have bf0 := blk_frozen hbox 0; have bf1 := blk_frozen hbox 1; have H7 := hid (H5.out.keep hb); have HG7 := hid hg; have HL5 := hid H5.out.lt; clear hb hbox hg))
        go_ret
        refine ⟨?_, fun h0 => ?_, ?_⟩
        · rw [hadr.out, if_pos he]; rfl
        · rw [hadr.out, if_pos he] at h0; exact absurd h0 he
        · exact (H7.out.below.setCell (p := ⟨g, 0, none⟩) (by show W0.heap.size ≤ g; have := HL5.out; have := HG7.out; omega) _).setCell (p := ⟨g, 1, none⟩) (by show W0.heap.size ≤ g; have := HL5.out; have := HG7.out; omega) _
      case pos =>
        subst he
        by_cases hn : nb = 100
        · have cn : ((nb : Int) == 100) = true := beq_iff_eq.2 (by omega)
          have cn2 : (nb == 100) = true := beq_iff_eq.2 hn
          go_wp2_with (first
            | (go_at_call 98; refine (hof.out _ H2.out.below).mono ?_; rintro e w5 ⟨rfl, b5⟩; have H5 := hid (H2.out.keep b5); have HBK5 := hid ((b5.block W0.heap.size H2.out.lt).trans HBK2.out))
            | ((with_reducible refine gate_dst (N := 6) rfl ?_); refine box_event ?hg (N := 6) ?hd (cs := #[.string (⟨#[]⟩ : ByteArray), .string (⟨#[]⟩ : ByteArray)]) (t := 29) ?hr ?_; (case hd => rfl); (case hg => rfl); (case hr => first | (go_simp; done) | (go_simp; rfl)); intro g hg w7 hbox hb; have b0 := (blk_cell hbox 0).trans rfl; have b1 := (blk_cell hbox 1).trans rfl; have bf0 := blk_frozen hbox 0; have bf1 := blk_frozen hbox 1; have HB57 := hid hb; have HG7k := hid hbox; have HBK7 := hid ((hb.block W0.heap.size H5.out.lt).trans HBK5.out); have H7 := hid (H5.out.keep hb); have HG7 := hid hg; have HL5 := hid H5.out.lt; have hne : ¬ W0.heap.size = g := (by have := HL5.out; omega); have r0 := (blk_cell HBK7.out 0).trans rfl; have r1 := (blk_cell HBK7.out 1).trans rfl; have rf0 := blk_frozen HBK7.out 0; have rf1 := blk_frozen HBK7.out 1; clear hb hbox hg))
          all_goals
            have hb100 : bx.length = 100 := by rw [← hnb.out]; exact hn
            have hal : Pl.addressM (Pl.bs nm) l bx = Pl.failM 8 := by rw [hadr.out, if_neg (by simp), if_pos hb100]
            go_ret
            rw [hal]
            exact ⟨rfl, fun h0 => absurd h0 (by decide), (((H5.out.keep ((HB57.out.setCell (p := ⟨g, 0, none⟩) (Nat.le_of_eq HG7.out.symm) (.string a)).setCell (p := ⟨g, 1, none⟩) (Nat.le_of_eq HG7.out.symm) (.string b))).below).setCell (p := ⟨W0.heap.size, 0, none⟩) (Nat.le_refl _) _)⟩
        · have cn : ((nb : Int) == 100) = false := beq_eq_false_iff_ne.2 (by omega)
          have cn2 : (nb == 100) = false := beq_eq_false_iff_ne.2 hn
          go_wp2_with (first
            | (go_at_call 98; refine (hof.out _ H2.out.below).mono ?_; rintro e w5 ⟨rfl, b5⟩; have H5 := hid (H2.out.keep b5); have HBK5 := hid ((b5.block W0.heap.size H2.out.lt).trans HBK2.out))
            | ((with_reducible refine gate_dst (N := 6) rfl ?_); refine box_event ?hg (N := 6) ?hd (cs := #[.string (⟨#[]⟩ : ByteArray), .string (⟨#[]⟩ : ByteArray)]) (t := 29) ?hr ?_; (case hd => rfl); (case hg => rfl); (case hr => first | (go_simp; done) | (go_simp; rfl)); intro g hg w7 hbox hb; have b0 := (blk_cell hbox 0).trans rfl; have b1 := (blk_cell hbox 1).trans rfl; have bf0 := blk_frozen hbox 0; have bf1 := blk_frozen hbox 1; have HB57 := hid hb; have HG7k := hid hbox; have HBK7 := hid ((hb.block W0.heap.size H5.out.lt).trans HBK5.out); have H7 := hid (H5.out.keep hb); have HG7 := hid hg; have HL5 := hid H5.out.lt; have hne : ¬ W0.heap.size = g := (by have := HL5.out; omega); have r0 := (blk_cell HBK7.out 0).trans rfl; have r1 := (blk_cell HBK7.out 1).trans rfl; have rf0 := blk_frozen HBK7.out 0; have rf1 := blk_frozen HBK7.out 1; clear hb hbox hg))
          all_goals
            have hgR : W0.heap.size < g := by have := HL5.out; have := HG7.out; omega
            have hnb100 : Hid (¬ bx.length = 100) := hid (by rw [← hnb.out]; exact hn)
            have HGp : Hid (((w7.setCell ⟨g, 0, none⟩ (.string a)).setCell ⟨g, 1, none⟩ (.string b)).heap[g]? = some (.cells #[.string a, .string b] 29 (0, 0))) := hid (blk_put (blk_put HG7k.out 0 _ rfl) 1 _ rfl)
            have HB7p : Hid (((w7.setCell ⟨g, 0, none⟩ (.string a)).setCell ⟨g, 1, none⟩ (.string b)).heap[W0.heap.size]? = some (.cells #[.slice A l.length c, .slice Ab nb cb] 67 (0, 0))) := hid ((Below.heap_setCell _ _ _ _ (by show W0.heap.size ≠ g; omega)).trans ((Below.heap_setCell _ _ _ _ (by show W0.heap.size ≠ g; omega)).trans HBK7.out))
            have H7p : Hid (RS W0 ((w7.setCell ⟨g, 0, none⟩ (.string a)).setCell ⟨g, 1, none⟩ (.string b)) l bx) := hid (H5.out.keep ((HB57.out.setCell (p := ⟨g, 0, none⟩) (Nat.le_of_eq HG7.out.symm) _).setCell (p := ⟨g, 1, none⟩) (Nat.le_of_eq HG7.out.symm) _))
            refine start_ (n := 13) (S := (fun w' => w'.cell? ⟨W0.heap.size, 1, none⟩ = some (.slice Ab nb cb) ∧ w'.cell? ⟨g, 0, none⟩ = some (.string a) ∧ w'.cell? ⟨g, 1, none⟩ = some (.string b))) (ds := [12]) #[false, false, false, false, false, false, false, false, false, false, false, false, false] (by kernel_rfl) rfl rfl ⟨(blk_cell (blk_drew (blk_put HB7p.out 0 _ rfl)) 1).trans rfl, (blk_cell (blk_drew ((Below.heap_setCell _ _ _ _ (by show g ≠ W0.heap.size; omega)).trans HGp.out)) 0).trans rfl, (blk_cell (blk_drew ((Below.heap_setCell _ _ _ _ (by show g ≠ W0.heap.size; omega)).trans HGp.out)) 1).trans rfl⟩ (fun hHeld => ?_); refine with_tabW mbx_address.tab mbx_address.bits (fun HT_ HW_ => ?_)
            generalize hW8 : World.drew _ = w8 at hHeld ⊢
            have H8 : Hid (RS W0 w8 (l.drop i) bx) := hid (by rw [← hW8]; exact (RS.cutW H7p.out HB7p.out i hii.out _ _ _ (by first | rfl | (simp [*]; done) | (simp [*]; rfl)) (by first | rfl | (simp; done) | omega) (by first | rfl | (simp; done) | omega)).keep (below_drew (Below.refl _ _)))
            have HB8 : Hid (∃ A' n' c', w8.heap[W0.heap.size]? = some (.cells #[.slice A' n' c', .slice Ab nb cb] 67 (0, 0))) := hid ⟨_, _, _, by rw [← hW8]; exact blk_drew (blk_put HB7p.out 0 _ rfl)⟩
            have HG8 : Hid (w8.heap[g]? = some (.cells #[.string a, .string b] 29 (0, 0))) := hid (by rw [← hW8]; exact blk_drew ((Below.heap_setCell _ _ _ _ (by show g ≠ W0.heap.size; omega)).trans HGp.out))
            clear hW8 b0 b1 bf0 bf1 r0 r1 rf0 rf1
            refine pure_ (i := 0) (N := some 56) (v := ?_) (a' := ?_) #[true, false, false, false, false, false, false, false, false, false, false, false, false] rfl rfl (any_of HT_.out (by kernel_rfl)) (fun _ _ _ h => h) (Or.inl ⟨by rfl, ?_⟩) ?_ ?_
            rotate_left
            · intro w'
              go_simp
              with_reducible rfl
            rotate_left
            · simp only [Act.put, List.setIfInBounds_toArray, List.set_cons_zero, List.set_cons_succ, i64_w, i32_w]
              rfl
            refine pure_ (i := 1) (N := some 57) (v := ?_) (a' := ?_) #[true, true, false, false, false, false, false, false, false, false, false, false, false] rfl rfl (any_of HT_.out (by kernel_rfl)) (fun _ _ _ h => h) (Or.inl ⟨by rfl, ?_⟩) ?_ ?_
            rotate_left
            · intro w'
              go_simp
              with_reducible rfl
            rotate_left
            · simp only [Act.put, List.setIfInBounds_toArray, List.set_cons_zero, List.set_cons_succ, i64_w, i32_w]
              rfl
            refine pure_ (i := 2) (N := some 58) (v := ?_) (a' := ?_) #[true, true, true, false, false, false, false, false, false, false, false, false, false] rfl rfl (any_of HT_.out (by kernel_rfl)) (fun _ _ _ h => h) (Or.inl ⟨by rfl, ?_⟩) ?_ ?_
            rotate_left
            · intro w'
              go_simp
              with_reducible rfl
            rotate_left
            · simp only [Act.put, List.setIfInBounds_toArray, List.set_cons_zero, List.set_cons_succ, i64_w, i32_w]
              rfl
            refine pure_ (i := 3) (N := some 59) (v := ?_) (a' := ?_) #[true, true, true, true, false, false, false, false, false, false, false, false, false] rfl rfl (any_of HT_.out (by kernel_rfl)) (fun _ _ _ h => h) (Or.inl ⟨by rfl, ?_⟩) ?_ ?_
            rotate_left
            · intro w'
              go_simp
              with_reducible rfl
            rotate_left
            · simp only [Act.put, List.setIfInBounds_toArray, List.set_cons_zero, List.set_cons_succ, i64_w, i32_w]
              rfl
            refine take_ (i := 4) (N := some 60) (v := ?_) (a' := ?_) #[true, true, true, true, true, false, false, false, false, false, false, false, false] rfl rfl (take_ofW HT_.out HW_.out (by kernel_rfl)) (fun _ _ _ h => h) (Or.inl ⟨by rfl, ?_⟩) hHeld ?_ ?_
            rotate_left
            · rintro w' ⟨s0, s1, s2⟩
              go_simp
              with_reducible rfl
            rotate_left
            · simp only [Act.put, List.setIfInBounds_toArray, List.set_cons_zero, List.set_cons_succ, i64_w, i32_w]
              rfl
            refine pure_ (i := 5) (N := some 61) (v := ?_) (a' := ?_) #[true, true, true, true, true, true, false, false, false, false, false, false, false] rfl rfl (any_of HT_.out (by kernel_rfl)) (fun _ _ _ h => h) (Or.inl ⟨by rfl, ?_⟩) ?_ ?_
            rotate_left
            · intro w'
              go_simp
              with_reducible rfl
            rotate_left
            · simp only [Act.put, List.setIfInBounds_toArray, List.set_cons_zero, List.set_cons_succ, i64_w, i32_w]
              rfl
            refine take_ (i := 6) (N := some 62) (v := ?_) (a' := ?_) #[true, true, true, true, true, true, true, false, false, false, false, false, false] rfl rfl (take_ofW HT_.out HW_.out (by kernel_rfl)) (fun _ _ _ h => h) (Or.inl ⟨by rfl, ?_⟩) hHeld ?_ ?_
            rotate_left
            · rintro w' ⟨s0, s1, s2⟩
              go_simp
              with_reducible rfl
            rotate_left
            · simp only [Act.put, List.setIfInBounds_toArray, List.set_cons_zero, List.set_cons_succ, i64_w, i32_w]
              rfl
            refine pure_ (i := 7) (N := some 63) (v := ?_) (a' := ?_) #[true, true, true, true, true, true, true, true, false, false, false, false, false] rfl rfl (any_of HT_.out (by kernel_rfl)) (fun _ _ _ h => h) (Or.inl ⟨by rfl, ?_⟩) ?_ ?_
            rotate_left
            · intro w'
              go_simp
              with_reducible rfl
            rotate_left
            · simp only [Act.put, List.setIfInBounds_toArray, List.set_cons_zero, List.set_cons_succ, i64_w, i32_w]
              rfl
            refine one_ (i := 8) (N := some 64) #[true, true, true, true, true, true, true, true, true, false, false, false, false] rfl rfl (one_of HT_.out (by kernel_rfl)) (by decide) (fun K hK => ?_)
            refine value_ (w1 := ?_) (v := ?_) (by rfl) rfl ?_ ?_
            rotate_left 2
            · go_simp
              constructor
              · rfl
              · rfl
            refine hK.out _ _ ⟨(blk_cell (blk_alloc (show w8.heap[W0.heap.size]? = some (.cells #[.slice _ _ _, .slice Ab nb cb] _ (0, 0)) from HB8.out.choose_spec.choose_spec.choose_spec) (.cells #[.string nm, .string a, .string b] 31)) 1).trans rfl, (blk_cell (blk_alloc HG8.out (.cells #[.string nm, .string a, .string b] 31)) 0).trans rfl, (blk_cell (blk_alloc HG8.out (.cells #[.string nm, .string a, .string b] 31)) 1).trans rfl⟩ (fun hHeld3 => ?_)
            clear hK K
            refine norm_ (a' := ?_) ?_ ?_
            rotate_left
            · show Act.put _ (some 64) _ = _
              simp only [Act.put, List.setIfInBounds_toArray, List.set_cons_zero, List.set_cons_succ, i64_w, i32_w]
              rfl
            refine one_ (i := 9) (N := some 65) #[true, true, true, true, true, true, true, true, true, true, false, false, false] rfl rfl (one_of HT_.out (by kernel_rfl)) (by decide) (fun K hK => ?_)
            have hRb : Kd.R k31 31 w8 (W0.heap.size + 1) (fun _ => True) (.slice Ab nb cb) (bx.map toBox) := by
              obtain ⟨A', n', c', h1⟩ := HB8.out
              exact H8.out.boxes h1
            refine Kd.R_append_step k31 (w0 := w8) (W0.heap.size + 1) (by rfl) (.tmp 60) (.tmp 64) 24 31 (.agg #[(.string ⟨#[]⟩), (.string ⟨#[]⟩), (.string ⟨#[]⟩)]) 48 rfl Tryd.underlying24 info31 rfl (by decide) (by omega) (.slice Ab nb cb) (bx.map toBox) (⟨nm, ⟨a, b⟩⟩ : S31) [.string nm, .string a, .string b] (fun _ => True) (fun _ => False) rfl rfl (k31_mkM _ _ _ _) (fun _ hk => hk.elim) (fun _ _ => trivial) hRb (Below.refl _ _) H8.out.lt (by rw [List.length_map]; have := HMM.out; omega) ?_
            intro v1 w9 ho hb9 hg9 hat9
            obtain ⟨Av, nv, cv, rfl⟩ : ∃ Av nv cv, v1 = .slice Av nv cv := by
              obtain ⟨Av, cv, e⟩ := Kd.R_slice ho
              exact ⟨Av, _, cv, e⟩
            have HB9 : Hid (∃ A' n' c', w9.heap[W0.heap.size]? = some (.cells #[.slice A' n' c', .slice Ab nb cb] 67 (0, 0))) := by
              obtain ⟨A', n', c', h1⟩ := HB8.out
              exact hid ⟨A', n', c', (hb9.block W0.heap.size (Nat.lt_succ_self _)).trans h1⟩
            have HG9 := hid ((hg9.block g (blk_lt HG8.out) (Kd.R_ne hRb HG8.out (by decide))).trans HG8.out)
            have HFIN := hid (H8.out.grow hb9 ho hnb100.out)
            refine hK.out _ _ ⟨(blk_cell HB9.out.choose_spec.choose_spec.choose_spec 1).trans rfl, (blk_cell HG9.out 0).trans rfl, (blk_cell HG9.out 1).trans rfl⟩ (fun hHeld4 => ?_)
            clear hK K hRb ho hb9 hg9 hat9
            refine norm_ (a' := ?_) ?_ ?_
            rotate_left
            · show Act.put _ (some 65) _ = _
              simp only [Act.put, List.setIfInBounds_toArray, List.set_cons_zero, List.set_cons_succ, i64_w, i32_w]
              rfl
            refine pure_ (i := 10) (N := some 66) (v := ?_) (a' := ?_) #[true, true, true, true, true, true, true, true, true, true, true, false, false] rfl rfl (any_of HT_.out (by kernel_rfl)) (fun _ _ _ h => h) (Or.inl ⟨by rfl, ?_⟩) ?_ ?_
            rotate_left
            · intro w'
              go_simp
              with_reducible rfl
            rotate_left
            · simp only [Act.put, List.setIfInBounds_toArray, List.set_cons_zero, List.set_cons_succ, i64_w, i32_w]
              rfl
            refine pure_ (i := 11) (N := some 67) (v := ?_) (a' := ?_) #[true, true, true, true, true, true, true, true, true, true, true, true, false] rfl rfl (any_of HT_.out (by kernel_rfl)) (fun _ _ _ h => h) (Or.inl ⟨by rfl, ?_⟩) ?_ ?_
            rotate_left
            · intro w'
              go_simp
              with_reducible rfl
            rotate_left
            · simp only [Act.put, List.setIfInBounds_toArray, List.set_cons_zero, List.set_cons_succ, i64_w, i32_w]
              rfl
            have t1 := (blk_cell HB9.out.choose_spec.choose_spec.choose_spec 1).trans rfl
            have tf1 := blk_frozen HB9.out.choose_spec.choose_spec.choose_spec 1
            refine last_ (i := 12) (N := none) #[true, true, true, true, true, true, true, true, true, true, true, true, true] rfl rfl (one_of HT_.out (by kernel_rfl)) (by decide) (fun K hK => ?_)
            refine skip_ (w1 := w9.setCell ⟨W0.heap.size, 1, none⟩ (.slice Av nv cv)) (by rfl) rfl ?_ ?_
            · go_simp
            refine hK.out _ _ ?_
            clear hK K
            refine done_ (done_of HT_.out (by kernel_rfl)) ?_
            go_wp2
            go_ret
            have hal : Pl.addressM (Pl.bs nm) l bx = ((l.drop i, bx ++ [(Pl.bs nm, Pl.bs a, Pl.bs b)]), 0) := by rw [hadr.out, if_neg (by simp), if_neg hnb100.out]
            rw [hal]
            exact ⟨rfl, fun _ => HFIN.out, HFIN.out.below⟩
    | cons t r =>
      have hl : i < l.length := by
        have := congrArg List.length hd
        rw [List.length_drop, List.length_cons] at this
        omega
      obtain ⟨ad, rfl, h0, h1⟩ := tok_cell hC hB hd
      have c1 : decide ((i : Int) < (l.length : Int)) = true := decide_eq_true (by omega)
      have c1n : decide (i < l.length) = true := decide_eq_true (by omega)
      have c2 : ((i : Int) < (l.length : Int)) = True := eq_true (by omega)
      have c3 : (i < l.length) = True := eq_true (by omega)
      have c5 : ((0 : Int) ≤ (i : Int)) = True := eq_true (by omega)
      have hsnoc : l.take (i + 1) = l.take i ++ [t] := by
        rw [List.take_succ_eq_append_getElem hl]
        congr 2
        have := List.getElem?_drop (xs := l) (i := i) (j := 0)
        rw [hd] at this
        simpa [List.getElem?_eq_getElem hl] using this.symm
      have HSN := hid hsnoc
      have HD := hid hd
      have hst := hid (stops_is (hS.ok t (List.mem_of_mem_drop (i := i) (by rw [hd]; exact List.mem_cons_self))))
      have HG := hid (H.out.globw)
      cases hq : Pl.stopT t with
      | false =>
        rw [hq] at hst
        clear hsnoc hd hb hC hR hB hS hM hG
        go_wp2_with (go_at_call 97; refine (mbx_stops.calls t.1 (Pl.str t.2) false wr HG.out hst.out).mono ?_; rintro e w' ⟨rfl, hb'⟩)
        go_roundw
        case rel => exact ⟨i + 1, by go_num, by omega, hid (by rw [HSN.out, List.all_append, HW.out]; simp [Pl.nonT, hq]), hid (H.out.keep hb')⟩
        case measure => simp [intOf]; omega
      | true =>
        rw [hq] at hst
        obtain ⟨Ab, cb, nb, rfl, hnb⟩ : ∃ Ab cb nb, v = .slice Ab nb cb ∧ Hid (nb = bx.length) := by
          obtain ⟨Ab, cb, e⟩ := Kd.R_slice hR
          exact ⟨Ab, cb, _, e, hid (List.length_map _)⟩
        have htw := hid (take_non HW.out (.inr ⟨t, r, HD.out, by unfold Pl.nonT; rw [hq]; rfl⟩))
        have hof := hid (fun W1 (hB1 : Below W0.heap.size W0 W1) => of_call hC hc hS i hi hB1)
        obtain ⟨⟨a, b, e0⟩, hres⟩ : ∃ x, Pl.ofT (l.take i) = x := ⟨_, rfl⟩
        rw [hres] at hof
        have hadr : Hid (Pl.addressM (Pl.bs nm) l bx = if e0 ≠ 0 then Pl.failM e0 else if bx.length = 100 then Pl.failM 8 else ((l.drop i, bx ++ [(Pl.bs nm, Pl.bs a, Pl.bs b)]), 0)) := by
          refine hid ?_
          unfold Pl.addressM
          rw [htw.out.1, htw.out.2, hres]
        have c6 : ((i : Int) ≤ (c : Int)) = True := eq_true (by omega)
        have c7 : (i ≤ c) = True := eq_true (by omega)
        have c8 : ((0 : Int) ≤ (i : Int)) = True := eq_true (by omega)
        have c9 : ((i : Int) ≤ (l.length : Int)) = True := eq_true (by omega)
        have c10 : (i ≤ l.length) = True := eq_true (by omega)
        have c11 : ((l.length : Int) ≤ (c : Int)) = True := eq_true (by omega)
        have c12 : (l.length ≤ c) = True := eq_true (by omega)
        have HBK := hid hb
        have hRlt := hid H.out.lt
        have hcc := hid hc
        have hii := hid hi
        have hzz := hid hz
        have HC := hid hC
        have HSM := hid hS
        have HMM := hid hM
        have HGG := hid hG
        clear hb hC hR hB hS hM hG hi hz hc hsnoc hd
        by_cases he : e0 = 0
        case neg =>
          have ce : (e0 != 0) = true := bne_iff_ne.2 he
          go_wp2_with (first
            | (go_at_call 97; refine (mbx_stops.calls t.1 (Pl.str t.2) true wr HG.out hst.out).mono ?_; rintro e w2 ⟨rfl, hb'⟩; have H2 := hid (H.out.keep hb'); have HBK2 := hid ((hb'.block W0.heap.size H.out.lt).trans HBK.out); have s0 := (blk_cell HBK2.out 0).trans rfl; clear hb')
            | (go_at_call 98; refine (hof.out _ H2.out.below).mono ?_; rintro e w5 ⟨rfl, b5⟩; have H5 := hid (H2.out.keep b5); have HBK5 := hid ((b5.block W0.heap.size H2.out.lt).trans HBK2.out))
            | ((with_reducible refine gate_dst (N := 6) rfl ?_); refine box_event ?hg (N := 6) ?hd (cs := #[.string (⟨#[]⟩ : ByteArray), .string (⟨#[]⟩ : ByteArray)]) (t := 29) ?hr ?_; (case hd => rfl); (case hg => rfl); (case hr => first | (go_simp; done) | (go_simp; rfl)); intro g hg w7 hbox hb; have b0 := (blk_cell hbox 0).trans rfl; have b1 := (blk_cell hbox 1).trans rfl; have bf0 := blk_frozen hbox 0; have bf1 := blk_frozen hbox 1; have H7 := hid (H5.out.keep hb); have HG7 := hid hg; have HL5 := hid H5.out.lt; clear hb hbox hg))
          go_ret
          refine ⟨?_, fun h0 => ?_, ?_⟩
          · rw [hadr.out, if_pos he]; rfl
          · rw [hadr.out, if_pos he] at h0; exact absurd h0 he
          · exact (H7.out.below.setCell (p := ⟨g, 0, none⟩) (by show W0.heap.size ≤ g; have := HL5.out; have := HG7.out; omega) _).setCell (p := ⟨g, 1, none⟩) (by show W0.heap.size ≤ g; have := HL5.out; have := HG7.out; omega) _
        case pos =>
          subst he
          by_cases hn : nb = 100
          · have cn : ((nb : Int) == 100) = true := beq_iff_eq.2 (by omega)
            have cn2 : (nb == 100) = true := beq_iff_eq.2 hn
            go_wp2_with (first
            | (go_at_call 97; refine (mbx_stops.calls t.1 (Pl.str t.2) true wr HG.out hst.out).mono ?_; rintro e w2 ⟨rfl, hb'⟩; have H2 := hid (H.out.keep hb'); have HBK2 := hid ((hb'.block W0.heap.size H.out.lt).trans HBK.out); have s0 := (blk_cell HBK2.out 0).trans rfl; clear hb')
              | (go_at_call 98; refine (hof.out _ H2.out.below).mono ?_; rintro e w5 ⟨rfl, b5⟩; have H5 := hid (H2.out.keep b5); have HBK5 := hid ((b5.block W0.heap.size H2.out.lt).trans HBK2.out))
              | ((with_reducible refine gate_dst (N := 6) rfl ?_); refine box_event ?hg (N := 6) ?hd (cs := #[.string (⟨#[]⟩ : ByteArray), .string (⟨#[]⟩ : ByteArray)]) (t := 29) ?hr ?_; (case hd => rfl); (case hg => rfl); (case hr => first | (go_simp; done) | (go_simp; rfl)); intro g hg w7 hbox hb; have b0 := (blk_cell hbox 0).trans rfl; have b1 := (blk_cell hbox 1).trans rfl; have bf0 := blk_frozen hbox 0; have bf1 := blk_frozen hbox 1; have HB57 := hid hb; have HG7k := hid hbox; have HBK7 := hid ((hb.block W0.heap.size H5.out.lt).trans HBK5.out); have H7 := hid (H5.out.keep hb); have HG7 := hid hg; have HL5 := hid H5.out.lt; have hne : ¬ W0.heap.size = g := (by have := HL5.out; omega); have r0 := (blk_cell HBK7.out 0).trans rfl; have r1 := (blk_cell HBK7.out 1).trans rfl; have rf0 := blk_frozen HBK7.out 0; have rf1 := blk_frozen HBK7.out 1; clear hb hbox hg))
            all_goals
              have hb100 : bx.length = 100 := by rw [← hnb.out]; exact hn
              have hal : Pl.addressM (Pl.bs nm) l bx = Pl.failM 8 := by rw [hadr.out, if_neg (by simp), if_pos hb100]
              go_ret
              rw [hal]
              exact ⟨rfl, fun h0 => absurd h0 (by decide), (((H5.out.keep ((HB57.out.setCell (p := ⟨g, 0, none⟩) (Nat.le_of_eq HG7.out.symm) (.string a)).setCell (p := ⟨g, 1, none⟩) (Nat.le_of_eq HG7.out.symm) (.string b))).below).setCell (p := ⟨W0.heap.size, 0, none⟩) (Nat.le_refl _) _)⟩
          · have cn : ((nb : Int) == 100) = false := beq_eq_false_iff_ne.2 (by omega)
            have cn2 : (nb == 100) = false := beq_eq_false_iff_ne.2 hn
            go_wp2_with (first
            | (go_at_call 97; refine (mbx_stops.calls t.1 (Pl.str t.2) true wr HG.out hst.out).mono ?_; rintro e w2 ⟨rfl, hb'⟩; have H2 := hid (H.out.keep hb'); have HBK2 := hid ((hb'.block W0.heap.size H.out.lt).trans HBK.out); have s0 := (blk_cell HBK2.out 0).trans rfl; clear hb')
              | (go_at_call 98; refine (hof.out _ H2.out.below).mono ?_; rintro e w5 ⟨rfl, b5⟩; have H5 := hid (H2.out.keep b5); have HBK5 := hid ((b5.block W0.heap.size H2.out.lt).trans HBK2.out))
              | ((with_reducible refine gate_dst (N := 6) rfl ?_); refine box_event ?hg (N := 6) ?hd (cs := #[.string (⟨#[]⟩ : ByteArray), .string (⟨#[]⟩ : ByteArray)]) (t := 29) ?hr ?_; (case hd => rfl); (case hg => rfl); (case hr => first | (go_simp; done) | (go_simp; rfl)); intro g hg w7 hbox hb; have b0 := (blk_cell hbox 0).trans rfl; have b1 := (blk_cell hbox 1).trans rfl; have bf0 := blk_frozen hbox 0; have bf1 := blk_frozen hbox 1; have HB57 := hid hb; have HG7k := hid hbox; have HBK7 := hid ((hb.block W0.heap.size H5.out.lt).trans HBK5.out); have H7 := hid (H5.out.keep hb); have HG7 := hid hg; have HL5 := hid H5.out.lt; have hne : ¬ W0.heap.size = g := (by have := HL5.out; omega); have r0 := (blk_cell HBK7.out 0).trans rfl; have r1 := (blk_cell HBK7.out 1).trans rfl; have rf0 := blk_frozen HBK7.out 0; have rf1 := blk_frozen HBK7.out 1; clear hb hbox hg))
            all_goals
              have hgR : W0.heap.size < g := by have := HL5.out; have := HG7.out; omega
              have hnb100 : Hid (¬ bx.length = 100) := hid (by rw [← hnb.out]; exact hn)
              have HGp : Hid (((w7.setCell ⟨g, 0, none⟩ (.string a)).setCell ⟨g, 1, none⟩ (.string b)).heap[g]? = some (.cells #[.string a, .string b] 29 (0, 0))) := hid (blk_put (blk_put HG7k.out 0 _ rfl) 1 _ rfl)
              have HB7p : Hid (((w7.setCell ⟨g, 0, none⟩ (.string a)).setCell ⟨g, 1, none⟩ (.string b)).heap[W0.heap.size]? = some (.cells #[.slice (some ad) l.length c, .slice Ab nb cb] 67 (0, 0))) := hid ((Below.heap_setCell _ _ _ _ (by show W0.heap.size ≠ g; omega)).trans ((Below.heap_setCell _ _ _ _ (by show W0.heap.size ≠ g; omega)).trans HBK7.out))
              have H7p : Hid (RS W0 ((w7.setCell ⟨g, 0, none⟩ (.string a)).setCell ⟨g, 1, none⟩ (.string b)) l bx) := hid (H5.out.keep ((HB57.out.setCell (p := ⟨g, 0, none⟩) (Nat.le_of_eq HG7.out.symm) _).setCell (p := ⟨g, 1, none⟩) (Nat.le_of_eq HG7.out.symm) _))
              refine start_ (n := 13) (S := (fun w' => w'.cell? ⟨W0.heap.size, 1, none⟩ = some (.slice Ab nb cb) ∧ w'.cell? ⟨g, 0, none⟩ = some (.string a) ∧ w'.cell? ⟨g, 1, none⟩ = some (.string b))) (ds := [12]) #[false, false, false, false, false, false, false, false, false, false, false, false, false] (by kernel_rfl) rfl rfl ⟨(blk_cell (blk_drew (blk_put HB7p.out 0 _ rfl)) 1).trans rfl, (blk_cell (blk_drew ((Below.heap_setCell _ _ _ _ (by show g ≠ W0.heap.size; omega)).trans HGp.out)) 0).trans rfl, (blk_cell (blk_drew ((Below.heap_setCell _ _ _ _ (by show g ≠ W0.heap.size; omega)).trans HGp.out)) 1).trans rfl⟩ (fun hHeld => ?_); refine with_tabW mbx_address.tab mbx_address.bits (fun HT_ HW_ => ?_)
              generalize hW8 : World.drew _ = w8 at hHeld ⊢
              have H8 : Hid (RS W0 w8 (l.drop i) bx) := hid (by rw [← hW8]; exact (RS.cutW H7p.out HB7p.out i hii.out _ _ _ (by first | rfl | (simp [*]; done) | (simp [*]; rfl)) (by first | rfl | (simp; done) | omega) (by first | rfl | (simp; done) | omega)).keep (below_drew (Below.refl _ _)))
              have HB8 : Hid (∃ A' n' c', w8.heap[W0.heap.size]? = some (.cells #[.slice A' n' c', .slice Ab nb cb] 67 (0, 0))) := hid ⟨_, _, _, by rw [← hW8]; exact blk_drew (blk_put HB7p.out 0 _ rfl)⟩
              have HG8 : Hid (w8.heap[g]? = some (.cells #[.string a, .string b] 29 (0, 0))) := hid (by rw [← hW8]; exact blk_drew ((Below.heap_setCell _ _ _ _ (by show g ≠ W0.heap.size; omega)).trans HGp.out))
              clear hW8 b0 b1 bf0 bf1 r0 r1 rf0 rf1
              refine pure_ (i := 0) (N := some 56) (v := ?_) (a' := ?_) #[true, false, false, false, false, false, false, false, false, false, false, false, false] rfl rfl (any_of HT_.out (by kernel_rfl)) (fun _ _ _ h => h) (Or.inl ⟨by rfl, ?_⟩) ?_ ?_
              rotate_left
              · intro w'
                go_simp
                with_reducible rfl
              rotate_left
              · simp only [Act.put, List.setIfInBounds_toArray, List.set_cons_zero, List.set_cons_succ, i64_w, i32_w]
                rfl
              refine pure_ (i := 1) (N := some 57) (v := ?_) (a' := ?_) #[true, true, false, false, false, false, false, false, false, false, false, false, false] rfl rfl (any_of HT_.out (by kernel_rfl)) (fun _ _ _ h => h) (Or.inl ⟨by rfl, ?_⟩) ?_ ?_
              rotate_left
              · intro w'
                go_simp
                with_reducible rfl
              rotate_left
              · simp only [Act.put, List.setIfInBounds_toArray, List.set_cons_zero, List.set_cons_succ, i64_w, i32_w]
                rfl
              refine pure_ (i := 2) (N := some 58) (v := ?_) (a' := ?_) #[true, true, true, false, false, false, false, false, false, false, false, false, false] rfl rfl (any_of HT_.out (by kernel_rfl)) (fun _ _ _ h => h) (Or.inl ⟨by rfl, ?_⟩) ?_ ?_
              rotate_left
              · intro w'
                go_simp
                with_reducible rfl
              rotate_left
              · simp only [Act.put, List.setIfInBounds_toArray, List.set_cons_zero, List.set_cons_succ, i64_w, i32_w]
                rfl
              refine pure_ (i := 3) (N := some 59) (v := ?_) (a' := ?_) #[true, true, true, true, false, false, false, false, false, false, false, false, false] rfl rfl (any_of HT_.out (by kernel_rfl)) (fun _ _ _ h => h) (Or.inl ⟨by rfl, ?_⟩) ?_ ?_
              rotate_left
              · intro w'
                go_simp
                with_reducible rfl
              rotate_left
              · simp only [Act.put, List.setIfInBounds_toArray, List.set_cons_zero, List.set_cons_succ, i64_w, i32_w]
                rfl
              refine take_ (i := 4) (N := some 60) (v := ?_) (a' := ?_) #[true, true, true, true, true, false, false, false, false, false, false, false, false] rfl rfl (take_ofW HT_.out HW_.out (by kernel_rfl)) (fun _ _ _ h => h) (Or.inl ⟨by rfl, ?_⟩) hHeld ?_ ?_
              rotate_left
              · rintro w' ⟨s0, s1, s2⟩
                go_simp
                with_reducible rfl
              rotate_left
              · simp only [Act.put, List.setIfInBounds_toArray, List.set_cons_zero, List.set_cons_succ, i64_w, i32_w]
                rfl
              refine pure_ (i := 5) (N := some 61) (v := ?_) (a' := ?_) #[true, true, true, true, true, true, false, false, false, false, false, false, false] rfl rfl (any_of HT_.out (by kernel_rfl)) (fun _ _ _ h => h) (Or.inl ⟨by rfl, ?_⟩) ?_ ?_
              rotate_left
              · intro w'
                go_simp
                with_reducible rfl
              rotate_left
              · simp only [Act.put, List.setIfInBounds_toArray, List.set_cons_zero, List.set_cons_succ, i64_w, i32_w]
                rfl
              refine take_ (i := 6) (N := some 62) (v := ?_) (a' := ?_) #[true, true, true, true, true, true, true, false, false, false, false, false, false] rfl rfl (take_ofW HT_.out HW_.out (by kernel_rfl)) (fun _ _ _ h => h) (Or.inl ⟨by rfl, ?_⟩) hHeld ?_ ?_
              rotate_left
              · rintro w' ⟨s0, s1, s2⟩
                go_simp
                with_reducible rfl
              rotate_left
              · simp only [Act.put, List.setIfInBounds_toArray, List.set_cons_zero, List.set_cons_succ, i64_w, i32_w]
                rfl
              refine pure_ (i := 7) (N := some 63) (v := ?_) (a' := ?_) #[true, true, true, true, true, true, true, true, false, false, false, false, false] rfl rfl (any_of HT_.out (by kernel_rfl)) (fun _ _ _ h => h) (Or.inl ⟨by rfl, ?_⟩) ?_ ?_
              rotate_left
              · intro w'
                go_simp
                with_reducible rfl
              rotate_left
              · simp only [Act.put, List.setIfInBounds_toArray, List.set_cons_zero, List.set_cons_succ, i64_w, i32_w]
                rfl
              refine one_ (i := 8) (N := some 64) #[true, true, true, true, true, true, true, true, true, false, false, false, false] rfl rfl (one_of HT_.out (by kernel_rfl)) (by decide) (fun K hK => ?_)
              refine value_ (w1 := ?_) (v := ?_) (by rfl) rfl ?_ ?_
              rotate_left 2
              · go_simp
                constructor
                · rfl
                · rfl
              refine hK.out _ _ ⟨(blk_cell (blk_alloc (show w8.heap[W0.heap.size]? = some (.cells #[.slice _ _ _, .slice Ab nb cb] _ (0, 0)) from HB8.out.choose_spec.choose_spec.choose_spec) (.cells #[.string nm, .string a, .string b] 31)) 1).trans rfl, (blk_cell (blk_alloc HG8.out (.cells #[.string nm, .string a, .string b] 31)) 0).trans rfl, (blk_cell (blk_alloc HG8.out (.cells #[.string nm, .string a, .string b] 31)) 1).trans rfl⟩ (fun hHeld3 => ?_)
              clear hK K
              refine norm_ (a' := ?_) ?_ ?_
              rotate_left
              · show Act.put _ (some 64) _ = _
                simp only [Act.put, List.setIfInBounds_toArray, List.set_cons_zero, List.set_cons_succ, i64_w, i32_w]
                rfl
              refine one_ (i := 9) (N := some 65) #[true, true, true, true, true, true, true, true, true, true, false, false, false] rfl rfl (one_of HT_.out (by kernel_rfl)) (by decide) (fun K hK => ?_)
              have hRb : Kd.R k31 31 w8 (W0.heap.size + 1) (fun _ => True) (.slice Ab nb cb) (bx.map toBox) := by
                obtain ⟨A', n', c', h1⟩ := HB8.out
                exact H8.out.boxes h1
              refine Kd.R_append_step k31 (w0 := w8) (W0.heap.size + 1) (by rfl) (.tmp 60) (.tmp 64) 24 31 (.agg #[(.string ⟨#[]⟩), (.string ⟨#[]⟩), (.string ⟨#[]⟩)]) 48 rfl Tryd.underlying24 info31 rfl (by decide) (by omega) (.slice Ab nb cb) (bx.map toBox) (⟨nm, ⟨a, b⟩⟩ : S31) [.string nm, .string a, .string b] (fun _ => True) (fun _ => False) rfl rfl (k31_mkM _ _ _ _) (fun _ hk => hk.elim) (fun _ _ => trivial) hRb (Below.refl _ _) H8.out.lt (by rw [List.length_map]; have := HMM.out; omega) ?_
              intro v1 w9 ho hb9 hg9 hat9
              obtain ⟨Av, nv, cv, rfl⟩ : ∃ Av nv cv, v1 = .slice Av nv cv := by
                obtain ⟨Av, cv, e⟩ := Kd.R_slice ho
                exact ⟨Av, _, cv, e⟩
              have HB9 : Hid (∃ A' n' c', w9.heap[W0.heap.size]? = some (.cells #[.slice A' n' c', .slice Ab nb cb] 67 (0, 0))) := by
                obtain ⟨A', n', c', h1⟩ := HB8.out
                exact hid ⟨A', n', c', (hb9.block W0.heap.size (Nat.lt_succ_self _)).trans h1⟩
              have HG9 := hid ((hg9.block g (blk_lt HG8.out) (Kd.R_ne hRb HG8.out (by decide))).trans HG8.out)
              have HFIN := hid (H8.out.grow hb9 ho hnb100.out)
              refine hK.out _ _ ⟨(blk_cell HB9.out.choose_spec.choose_spec.choose_spec 1).trans rfl, (blk_cell HG9.out 0).trans rfl, (blk_cell HG9.out 1).trans rfl⟩ (fun hHeld4 => ?_)
              clear hK K hRb ho hb9 hg9 hat9
              refine norm_ (a' := ?_) ?_ ?_
              rotate_left
              · show Act.put _ (some 65) _ = _
                simp only [Act.put, List.setIfInBounds_toArray, List.set_cons_zero, List.set_cons_succ, i64_w, i32_w]
                rfl
              refine pure_ (i := 10) (N := some 66) (v := ?_) (a' := ?_) #[true, true, true, true, true, true, true, true, true, true, true, false, false] rfl rfl (any_of HT_.out (by kernel_rfl)) (fun _ _ _ h => h) (Or.inl ⟨by rfl, ?_⟩) ?_ ?_
              rotate_left
              · intro w'
                go_simp
                with_reducible rfl
              rotate_left
              · simp only [Act.put, List.setIfInBounds_toArray, List.set_cons_zero, List.set_cons_succ, i64_w, i32_w]
                rfl
              refine pure_ (i := 11) (N := some 67) (v := ?_) (a' := ?_) #[true, true, true, true, true, true, true, true, true, true, true, true, false] rfl rfl (any_of HT_.out (by kernel_rfl)) (fun _ _ _ h => h) (Or.inl ⟨by rfl, ?_⟩) ?_ ?_
              rotate_left
              · intro w'
                go_simp
                with_reducible rfl
              rotate_left
              · simp only [Act.put, List.setIfInBounds_toArray, List.set_cons_zero, List.set_cons_succ, i64_w, i32_w]
                rfl
              have t1 := (blk_cell HB9.out.choose_spec.choose_spec.choose_spec 1).trans rfl
              have tf1 := blk_frozen HB9.out.choose_spec.choose_spec.choose_spec 1
              refine last_ (i := 12) (N := none) #[true, true, true, true, true, true, true, true, true, true, true, true, true] rfl rfl (one_of HT_.out (by kernel_rfl)) (by decide) (fun K hK => ?_)
              refine skip_ (w1 := w9.setCell ⟨W0.heap.size, 1, none⟩ (.slice Av nv cv)) (by rfl) rfl ?_ ?_
              · go_simp
              refine hK.out _ _ ?_
              clear hK K
              refine done_ (done_of HT_.out (by kernel_rfl)) ?_
              go_wp2
              go_ret
              have hal : Pl.addressM (Pl.bs nm) l bx = ((l.drop i, bx ++ [(Pl.bs nm, Pl.bs a, Pl.bs b)]), 0) := by rw [hadr.out, if_neg (by simp), if_neg hnb100.out]
              rw [hal]
              exact ⟨rfl, fun _ => HFIN.out, HFIN.out.below⟩
end Go.Proofs.YtbjbpgmjijeppaaDoor.Fn
set_option linter.unusedVariables false
set_option linter.unusedSimpArgs false
namespace Go.Proofs.YtbjbpgmjijeppaaDoor.Fn
open Go.RowKit Go.Proofs.YtbjbpgmjijeppaaDoorW.PrintWords Go.Proofs.YtbjbpgmjijeppaaDoorW.PrintLast Go.Proofs.YtbjbpgmjijeppaaDoorW.PrintMore

/-! Layer 14: a mailbox, a group, an item, taken away from the front -/
theorem drop_while (p : Pl.Tok → Bool) : ∀ l : List Pl.Tok, l.drop (l.takeWhile p).length = l.dropWhile p
  | [] => rfl
  | t :: l => by
    rw [List.takeWhile_cons, List.dropWhile_cons]
    cases p t with
    | true => simp only [if_true, List.length_cons, List.drop_succ_cons]; exact drop_while p l
    | false => simp
theorem drop_tail {α : Type} (l : List α) (n : Nat) : l.drop (n + 1) = (l.drop n).tail := by
  rw [List.tail_drop]
theorem address_gives {W0 w : World} {l : List Pl.Tok} {bx : List Pl.BoxL} {nm : ByteArray} (h : RS W0 w l bx) {la : List Pl.Tok} {ba : List Pl.BoxL} {ea : Int} (hA : Pl.addressM (Pl.bs nm) l bx = ((la, ba), ea)) :
    Calls Tryd.prog 83 #[.pointer (some ⟨W0.heap.size, 0, none⟩), .string nm] w fun e w' => e = .returned (.int .i64 ea) ∧ (ea = 0 → RS W0 w' la ba) ∧ Below W0.heap.size W0 w' := by
  have := address_calls W0 w l bx nm h
  rw [hA] at this
  exact this
theorem at_gives {W0 w : World} {l : List Pl.Tok} {bx : List Pl.BoxL} (h : RS W0 w l bx) {c : UInt8} {q : Bool} (hq : Pl.headIs l [c] = q) :
    Calls Tryd.prog 61 #[.pointer (some ⟨W0.heap.size, 0, none⟩), .string ⟨#[c]⟩] w fun e w' => e = .returned (.bool q) ∧ w' = w := by
  have := at_calls W0 w l bx ⟨#[c]⟩ h
  rw [show Pl.bs ⟨#[c]⟩ = [c] from rfl, hq] at this
  exact this
theorem take_gives {W0 w : World} {l : List Pl.Tok} {bx : List Pl.BoxL} (h : RS W0 w l bx) {c : UInt8} {q : Bool} (hq : Pl.headIs l [c] = q) :
    Calls Tryd.prog 35 #[.pointer (some ⟨W0.heap.size, 0, none⟩), .string ⟨#[c]⟩] w fun e w' => e = .returned (.bool q) ∧ RS W0 w' (if q = true then l.tail else l) bx := by
  have := take_calls W0 w l bx ⟨#[c]⟩ h
  rw [show Pl.bs ⟨#[c]⟩ = [c] from rfl, hq] at this
  exact this
theorem follows_gives {W0 w : World} {l : List Pl.Tok} {bx : List Pl.BoxL} (h : RS W0 w l bx) {c : UInt8} {n : Nat} {q : Bool} (hn : (l.takeWhile Pl.wordT).length = n) (hq : Pl.headIs (l.dropWhile Pl.wordT) [c] = q) :
    Calls Tryd.prog 58 #[.pointer (some ⟨W0.heap.size, 0, none⟩), .int .i64 n, .string ⟨#[c]⟩] w fun e w' => e = .returned (.bool q) ∧ w' = w := by
  have := follows_calls W0 w l bx n ⟨#[c]⟩ h
  rw [show Pl.bs ⟨#[c]⟩ = [c] from rfl, ← hn, drop_while, hq] at this
  rw [← hn]
  exact this
theorem words_gives {W0 w : World} {l : List Pl.Tok} {bx : List Pl.BoxL} (h : RS W0 w l bx) {n : Nat} (hn : (l.takeWhile Pl.wordT).length = n) :
    Calls Tryd.prog 57 #[.pointer (some ⟨W0.heap.size, 0, none⟩)] w fun e w' => e = .returned (.tuple #[.int .i64 n, .string (Pl.str (Pl.nameL l))]) ∧ Below w.heap.size w w' := by
  have := words_calls W0 w l bx h
  rw [hn] at this
  exact this
theorem RS.holds {W0 w : World} {l : List Pl.Tok} {bx : List Pl.BoxL} (h : RS W0 w l bx) : ∃ (A : Option Addr) (n c : Nat) (v : Value), w.heap[W0.heap.size]? = some (.cells #[.slice A n c, v] 67 (0, 0)) ∧ n = l.length ∧ n ≤ c ∧ (0 < n → ∃ ad, A = some ad) := by
  obtain ⟨A, c, v, h1, h2, h3, h4⟩ := h.out
  refine ⟨A, l.length, c, v, h1, rfl, h3, fun hp => ?_⟩
  obtain ⟨ad, e, _⟩ := h2.2.2 hp
  exact ⟨ad, e⟩
set_option maxHeartbeats 8000000 in
set_option maxRecDepth 100000 in
theorem mailbox_calls (W0 w : World) (l : List Pl.Tok) (bx : List Pl.BoxL) (h : RS W0 w l bx) :
    Calls Tryd.prog 59 #[.pointer (some ⟨W0.heap.size, 0, none⟩)] w fun e w' => e = .returned (.int .i64 (Pl.mailboxM l bx).2) ∧ ((Pl.mailboxM l bx).2 = 0 → RS W0 w' (Pl.mailboxM l bx).1.1 (Pl.mailboxM l bx).1.2) ∧ Below W0.heap.size W0 w' := by
  obtain ⟨n, hn⟩ : ∃ n, (l.takeWhile Pl.wordT).length = n := ⟨_, rfl⟩
  have hw := hid (words_gives h hn)
  have H := hid h
  have hz := h.small.len
  clear h
  cases hq : Pl.headIs (l.dropWhile Pl.wordT) [60] with
  | false =>
    obtain ⟨⟨⟨la, ba⟩, ea⟩, hA⟩ : ∃ x, Pl.addressM [] l bx = x := ⟨_, rfl⟩
    have hM : Pl.mailboxM l bx = ((la, ba), ea) := by unfold Pl.mailboxM; rw [hq, if_neg (by decide), hA]
    rw [hM]
    have HA := hid hA
    have HN := hid hn
    have HQ := hid hq
    clear hA hM hn hq hz
    go_enter Tryd.func59, Tryd.ntmps59
    go_wp2_with (first
      | (go_at_call 57; refine hw.out.mono ?_; rintro e w1 ⟨rfl, b1⟩; have H1 := hid (H.out.keep b1))
      | (go_at_call 58; refine (follows_gives H1.out HN.out HQ.out).mono ?_; rintro e w2 ⟨rfl, rfl⟩)
      | (go_at_call 83; refine (address_gives (nm := ⟨#[]⟩) H1.out HA.out).mono ?_; rintro e w3 ⟨rfl, hR, hB⟩))
    go_ret
    exact ⟨rfl, hR, hB⟩
  | true =>
    obtain ⟨t, r, hr, ht⟩ := Pl.headIs_ne hq
    have hnl : n + 1 ≤ l.length := by
      have h1 := congrArg List.length (List.takeWhile_append_dropWhile (p := Pl.wordT) (l := l))
      rw [List.length_append, hn, hr, List.length_cons] at h1
      omega
    have hdr : l.drop (n + 1) = (l.dropWhile Pl.wordT).tail := by rw [drop_tail, ← hn, drop_while]
    obtain ⟨⟨⟨la, ba⟩, ea⟩, hA⟩ : ∃ x, Pl.addressM (Pl.nameL l) (l.drop (n + 1)) bx = x := ⟨_, rfl⟩
    have hA2 : Pl.addressM (Pl.bs (Pl.str (Pl.nameL l))) (l.drop (n + 1)) bx = ((la, ba), ea) := by rw [Pl.bs_str]; exact hA
    have hM : Pl.mailboxM l bx = Pl.angleM ((la, ba), ea) := by unfold Pl.mailboxM; rw [hq, if_pos rfl, ← hdr, hA]
    rw [hM]
    have HA := hid hA2
    have HN := hid hn
    have HQ := hid hq
    have HL := hid hnl
    clear hA hA2 hM hn hq hdr hr ht
    obtain ⟨m, hm⟩ : ∃ m, n + 1 = m := ⟨_, rfl⟩
    rw [hm] at HA HL
    have hwr : wrap64 ((n : Int) + 1) = (m : Int) := by rw [Pl.wrap_succ n (by have := HL.out; omega), hm]
    have hm0 : ((0 : Int) ≤ (m : Int)) = True := eq_true (by omega)
    have HZ := hid hz
    have HM := hid hm
    clear hm hz
    by_cases he : ea = 0
    case neg =>
      have ce : (ea != 0) = true := bne_iff_ne.2 he
      have hP : Pl.angleM ((la, ba), ea) = ((la, ba), ea) := by unfold Pl.angleM; rw [if_pos he]
      rw [hP]
      have hq2 : Hid (Pl.headIs la [62] = Pl.headIs la [62]) := hid rfl
      clear hP
      go_enter Tryd.func59, Tryd.ntmps59
      go_wp2_with (first
        | (go_at_call 57; refine hw.out.mono ?_; rintro e w1 ⟨rfl, b1⟩; have H1 := hid (H.out.keep b1); obtain ⟨A, ln, c, v, hb1, hln, hlc, hA1⟩ := H1.out.holds; obtain ⟨ad, rfl⟩ := hA1 (by have := HL.out; have := HM.out; omega); have r0 := (blk_cell hb1 0).trans rfl; have rf0 := blk_frozen hb1 0; have c1 : ((m : Int) ≤ (ln : Int)) = True := eq_true (by have := HL.out; omega); have c2 : ((ln : Int) ≤ (c : Int)) = True := eq_true (by omega); have c3 : ((m : Int) ≤ (c : Int)) = True := eq_true (by have := HL.out; omega); have c4 : (m ≤ ln) = True := eq_true (by have := HL.out; omega); have c5 : (ln ≤ c) = True := eq_true hlc; have c6 : (m ≤ c) = True := eq_true (by have := HL.out; omega); have HBK := hid hb1; clear hln hlc hA1 hb1)
        | (go_at_call 58; refine (follows_gives H1.out HN.out HQ.out).mono ?_; rintro e w2 ⟨rfl, rfl⟩)
        | (go_at_call 83; refine (address_gives (RS.cutW H1.out HBK.out m HL.out _ _ _ (by first | rfl | (simp [*]; done) | (simp [*]; rfl)) (by first | rfl | (simp; done) | omega) (by first | rfl | (simp; done) | omega)) HA.out).mono ?_; rintro e w3 ⟨rfl, hR, hB⟩; have HR3 := hid hR; have HB3 := hid hB; clear hR hB)
        | (go_at_call 35; refine (take_gives (HR3.out (by trivial)) hq2.out).mono ?_; rintro e w4 ⟨rfl, hR4⟩; have HR4 := hid hR4; clear hR4))
      all_goals
        go_ret
        first | exact ⟨rfl, HR3.out, HB3.out⟩ | exact ⟨rfl, HB3.out⟩
    case pos =>
      subst he
      cases hq2 : Pl.headIs la [62] with
      | false =>
        have hP : Pl.angleM ((la, ba), 0) = Pl.failM 130 := by unfold Pl.angleM; rw [if_neg (by simp), hq2]; rfl
        rw [hP]
        replace hq2 := hid hq2
        clear hP
        go_enter Tryd.func59, Tryd.ntmps59
        go_wp2_with (first
          | (go_at_call 57; refine hw.out.mono ?_; rintro e w1 ⟨rfl, b1⟩; have H1 := hid (H.out.keep b1); obtain ⟨A, ln, c, v, hb1, hln, hlc, hA1⟩ := H1.out.holds; obtain ⟨ad, rfl⟩ := hA1 (by have := HL.out; have := HM.out; omega); have r0 := (blk_cell hb1 0).trans rfl; have rf0 := blk_frozen hb1 0; have c1 : ((m : Int) ≤ (ln : Int)) = True := eq_true (by have := HL.out; omega); have c2 : ((ln : Int) ≤ (c : Int)) = True := eq_true (by omega); have c3 : ((m : Int) ≤ (c : Int)) = True := eq_true (by have := HL.out; omega); have c4 : (m ≤ ln) = True := eq_true (by have := HL.out; omega); have c5 : (ln ≤ c) = True := eq_true hlc; have c6 : (m ≤ c) = True := eq_true (by have := HL.out; omega); have HBK := hid hb1; clear hln hlc hA1 hb1)
          | (go_at_call 58; refine (follows_gives H1.out HN.out HQ.out).mono ?_; rintro e w2 ⟨rfl, rfl⟩)
          | (go_at_call 83; refine (address_gives (RS.cutW H1.out HBK.out m HL.out _ _ _ (by first | rfl | (simp [*]; done) | (simp [*]; rfl)) (by first | rfl | (simp; done) | omega) (by first | rfl | (simp; done) | omega)) HA.out).mono ?_; rintro e w3 ⟨rfl, hR, hB⟩; have HR3 := hid hR; have HB3 := hid hB; clear hR hB)
          | (go_at_call 35; refine (take_gives (HR3.out (by trivial)) hq2.out).mono ?_; rintro e w4 ⟨rfl, hR4⟩; have HR4 := hid hR4; clear hR4))
        all_goals
          go_ret
          first | exact ⟨rfl, fun h0 => absurd h0 (by decide), HR4.out.below⟩ | exact ⟨rfl, HR4.out.below⟩
      | true =>
        have hP : Pl.angleM ((la, ba), 0) = ((la.tail, ba), 0) := by unfold Pl.angleM; rw [if_neg (by simp), hq2]; rfl
        rw [hP]
        replace hq2 := hid hq2
        clear hP
        go_enter Tryd.func59, Tryd.ntmps59
        go_wp2_with (first
          | (go_at_call 57; refine hw.out.mono ?_; rintro e w1 ⟨rfl, b1⟩; have H1 := hid (H.out.keep b1); obtain ⟨A, ln, c, v, hb1, hln, hlc, hA1⟩ := H1.out.holds; obtain ⟨ad, rfl⟩ := hA1 (by have := HL.out; have := HM.out; omega); have r0 := (blk_cell hb1 0).trans rfl; have rf0 := blk_frozen hb1 0; have c1 : ((m : Int) ≤ (ln : Int)) = True := eq_true (by have := HL.out; omega); have c2 : ((ln : Int) ≤ (c : Int)) = True := eq_true (by omega); have c3 : ((m : Int) ≤ (c : Int)) = True := eq_true (by have := HL.out; omega); have c4 : (m ≤ ln) = True := eq_true (by have := HL.out; omega); have c5 : (ln ≤ c) = True := eq_true hlc; have c6 : (m ≤ c) = True := eq_true (by have := HL.out; omega); have HBK := hid hb1; clear hln hlc hA1 hb1)
          | (go_at_call 58; refine (follows_gives H1.out HN.out HQ.out).mono ?_; rintro e w2 ⟨rfl, rfl⟩)
          | (go_at_call 83; refine (address_gives (RS.cutW H1.out HBK.out m HL.out _ _ _ (by first | rfl | (simp [*]; done) | (simp [*]; rfl)) (by first | rfl | (simp; done) | omega) (by first | rfl | (simp; done) | omega)) HA.out).mono ?_; rintro e w3 ⟨rfl, hR, hB⟩; have HR3 := hid hR; have HB3 := hid hB; clear hR hB)
          | (go_at_call 35; refine (take_gives (HR3.out (by trivial)) hq2.out).mono ?_; rintro e w4 ⟨rfl, hR4⟩; have HR4 := hid hR4; clear hR4))
        all_goals
          go_ret
          first | exact ⟨rfl, fun _ => HR4.out, HR4.out.below⟩ | exact ⟨rfl, HR4.out, HR4.out.below⟩
theorem take_yes {W0 w : World} {l : List Pl.Tok} {bx : List Pl.BoxL} (h : RS W0 w l bx) {c : UInt8} (hq : Pl.headIs l [c] = true) :
    Calls Tryd.prog 35 #[.pointer (some ⟨W0.heap.size, 0, none⟩), .string ⟨#[c]⟩] w fun e w' => e = .returned (.bool true) ∧ RS W0 w' l.tail bx := take_gives h hq
theorem take_no {W0 w : World} {l : List Pl.Tok} {bx : List Pl.BoxL} (h : RS W0 w l bx) {c : UInt8} (hq : Pl.headIs l [c] = false) :
    Calls Tryd.prog 35 #[.pointer (some ⟨W0.heap.size, 0, none⟩), .string ⟨#[c]⟩] w fun e w' => e = .returned (.bool false) ∧ RS W0 w' l bx := take_gives h hq
theorem mailbox_gives {W0 w : World} {l : List Pl.Tok} {bx : List Pl.BoxL} (h : RS W0 w l bx) {la : List Pl.Tok} {ba : List Pl.BoxL} {ea : Int} (hA : Pl.mailboxM l bx = ((la, ba), ea)) :
    Calls Tryd.prog 59 #[.pointer (some ⟨W0.heap.size, 0, none⟩)] w fun e w' => e = .returned (.int .i64 ea) ∧ (ea = 0 → RS W0 w' la ba) ∧ Below W0.heap.size W0 w' := by
  have := mailbox_calls W0 w l bx h
  rw [hA] at this
  exact this
set_option maxHeartbeats 8000000 in
set_option maxRecDepth 100000 in
theorem group_gives {W0 w : World} {l : List Pl.Tok} {bx : List Pl.BoxL} (h : RS W0 w l bx) {k : Nat} {lx : List Pl.Tok} {bxx : List Pl.BoxL} {ex : Int} (hx : Pl.groupM k l bx = ((lx, bxx), ex)) (hk : l.length < k) :
    Calls Tryd.prog 60 #[.pointer (some ⟨W0.heap.size, 0, none⟩)] w fun e w' => e = .returned (.int .i64 ex) ∧ (ex = 0 → RS W0 w' lx bxx) ∧ Below W0.heap.size W0 w' := by
  have H0 := hid h
  have HX0 := hid hx
  have HK0 := hid hk
  clear h hx hk
  go_enter Tryd.func60, Tryd.ntmps60
  go_wp2
  go_loopg [3] k (fun kq v3 w' => ∃ (l1 : List Pl.Tok) (bx1 : List Pl.BoxL), Hid (Pl.groupM kq l1 bx1 = ((lx, bxx), ex)) ∧ Hid (RS W0 w' l1 bx1) ∧ Hid (l1.length < kq) ∧ Hid (kq ≤ k))
  case atStart => exact ⟨l, bx, HX0, H0, HK0, hid (Nat.le_refl _)⟩
  case round =>
    clear H0 HX0 HK0
    obtain ⟨l1, bx1, HX, H, HL, HK⟩ := hrel
    cases gk with
    | zero => exact absurd HL.out (by omega)
    | succ k1 =>
      have hX := HX.out
      clear HX
      rw [Pl.groupM] at hX
      cases c1 : Pl.headIs l1 [59] with
      | true =>
        rw [c1, if_pos rfl] at hX
        simp only [Prod.mk.injEq] at hX
        obtain ⟨⟨rfl, rfl⟩, rfl⟩ := hX
        have C1 := hid c1
        clear c1
        go_wp2_with (first
          | (go_at_call 35; refine (take_yes H.out (c := 59) C1.out).mono ?_; rintro e w1 ⟨rfl, h_⟩; have H1 := hid h_; clear h_))
        go_ret
        first | exact ⟨rfl, fun _ => H1.out, H1.out.below⟩ | exact ⟨rfl, H1.out, H1.out.below⟩
      | false =>
        rw [c1, if_neg (by decide)] at hX
        have C1 := hid c1
        clear c1
        obtain ⟨⟨⟨l2, b2⟩, e2⟩, hA⟩ : ∃ x, Pl.mailboxM l1 bx1 = x := ⟨_, rfl⟩
        rw [hA] at hX
        have HA := hid hA
        clear hA
        by_cases he : e2 = 0
        case neg =>
          rw [if_pos he] at hX
          simp only [Prod.mk.injEq] at hX
          obtain ⟨⟨rfl, rfl⟩, rfl⟩ := hX
          have ce : (e2 != 0) = true := bne_iff_ne.2 he
          go_wp2_with (first
            | (go_at_call 35; refine (take_no H.out (c := 59) C1.out).mono ?_; rintro e w1 ⟨rfl, h_⟩; have H1 := hid h_; clear h_)
            | (go_at_call 59; refine (mailbox_gives H1.out HA.out).mono ?_; rintro e w2 ⟨rfl, h2, b2_⟩; have H2 := hid h2; have B2 := hid b2_; clear h2 b2_))
          go_ret
          first | exact ⟨rfl, H2.out, B2.out⟩ | exact ⟨rfl, B2.out⟩
        case pos =>
          subst he
          rw [if_neg (by simp)] at hX
          obtain ⟨_, _, hlt, _⟩ := Pl.mailbox_more HA.out
          have HLT := hid hlt
          clear hlt
          cases c3 : Pl.headIs l2 [59] with
          | true =>
            rw [if_pos c3] at hX
            have C3 := hid c3
            have HX2 := hid hX
            clear c3 hX
            go_wp2_with (first
              | (go_at_call 35; refine (take_no H.out (c := 59) C1.out).mono ?_; rintro e w1 ⟨rfl, h_⟩; have H1 := hid h_; clear h_)
              | (go_at_call 59; refine (mailbox_gives H1.out HA.out).mono ?_; rintro e w2 ⟨rfl, h2, b2_⟩; have H2 := hid h2; have B2 := hid b2_; clear h2 b2_)
              | (go_at_call 61; refine (at_gives (H2.out (by trivial)) (c := 59) C3.out).mono ?_; rintro e w_ ⟨rfl, rfl⟩))
            go_roundg k1
            case measure => have := HK.out; omega
            case rel => exact ⟨l2, b2, HX2, hid (H2.out (by trivial)), hid (by have := HL.out; have := HLT.out; omega), hid (by have := HK.out; omega)⟩
          | false =>
            rw [if_neg (show ¬ Pl.headIs l2 [59] = true by rw [c3]; decide)] at hX
            have C3 := hid c3
            clear c3
            cases c4 : Pl.headIs l2 [44] with
            | false =>
              rw [if_neg (show ¬ (Pl.headIs l2 [44] = true ∧ Pl.headIs l2.tail [59] = false) by rw [c4]; simp)] at hX
              have C4 := hid c4
              clear c4
              simp only [Pl.failM, Prod.mk.injEq] at hX
              obtain ⟨⟨rfl, rfl⟩, rfl⟩ := hX
              go_wp2_with (first
                | (go_at_call 35; refine (take_no (H2.out (by trivial)) (c := 44) C4.out).mono ?_; rintro e w4 ⟨rfl, h_⟩; have H4 := hid h_; clear h_)
                | (go_at_call 35; refine (take_no H.out (c := 59) C1.out).mono ?_; rintro e w1 ⟨rfl, h_⟩; have H1 := hid h_; clear h_)
                | (go_at_call 59; refine (mailbox_gives H1.out HA.out).mono ?_; rintro e w2 ⟨rfl, h2, b2_⟩; have H2 := hid h2; have B2 := hid b2_; clear h2 b2_)
                | (go_at_call 61; refine (at_gives (H2.out (by trivial)) (c := 59) C3.out).mono ?_; rintro e w_ ⟨rfl, rfl⟩))
              go_ret
              first | exact ⟨rfl, fun h0 => absurd h0 (by decide), H4.out.below⟩ | exact ⟨rfl, H4.out.below⟩
            | true =>
              have C4 := hid c4
              cases c5 : Pl.headIs l2.tail [59] with
              | true =>
                rw [if_neg (show ¬ (Pl.headIs l2 [44] = true ∧ Pl.headIs l2.tail [59] = false) by rw [c5]; simp)] at hX
                have C5 := hid c5
                clear c4 c5
                simp only [Pl.failM, Prod.mk.injEq] at hX
                obtain ⟨⟨rfl, rfl⟩, rfl⟩ := hX
                go_wp2_with (first
                  | (go_at_call 35; refine (take_yes (H2.out (by trivial)) (c := 44) C4.out).mono ?_; rintro e w4 ⟨rfl, h_⟩; have H4 := hid h_; clear h_)
                  | (go_at_call 61; refine (at_gives H4.out (c := 59) C5.out).mono ?_; rintro e w_ ⟨rfl, rfl⟩)
                  | (go_at_call 35; refine (take_no H.out (c := 59) C1.out).mono ?_; rintro e w1 ⟨rfl, h_⟩; have H1 := hid h_; clear h_)
                  | (go_at_call 59; refine (mailbox_gives H1.out HA.out).mono ?_; rintro e w2 ⟨rfl, h2, b2_⟩; have H2 := hid h2; have B2 := hid b2_; clear h2 b2_)
                  | (go_at_call 61; refine (at_gives (H2.out (by trivial)) (c := 59) C3.out).mono ?_; rintro e w_ ⟨rfl, rfl⟩))
                go_ret
                first | exact ⟨rfl, fun h0 => absurd h0 (by decide), H4.out.below⟩ | exact ⟨rfl, H4.out.below⟩
              | false =>
                rw [if_pos (show Pl.headIs l2 [44] = true ∧ Pl.headIs l2.tail [59] = false from ⟨c4, c5⟩)] at hX
                have C5 := hid c5
                have HX2 := hid hX
                clear c4 c5 hX
                go_wp2_with (first
                  | (go_at_call 35; refine (take_yes (H2.out (by trivial)) (c := 44) C4.out).mono ?_; rintro e w4 ⟨rfl, h_⟩; have H4 := hid h_; clear h_)
                  | (go_at_call 61; refine (at_gives H4.out (c := 59) C5.out).mono ?_; rintro e w_ ⟨rfl, rfl⟩)
                  | (go_at_call 35; refine (take_no H.out (c := 59) C1.out).mono ?_; rintro e w1 ⟨rfl, h_⟩; have H1 := hid h_; clear h_)
                  | (go_at_call 59; refine (mailbox_gives H1.out HA.out).mono ?_; rintro e w2 ⟨rfl, h2, b2_⟩; have H2 := hid h2; have B2 := hid b2_; clear h2 b2_)
                  | (go_at_call 61; refine (at_gives (H2.out (by trivial)) (c := 59) C3.out).mono ?_; rintro e w_ ⟨rfl, rfl⟩))
                go_roundg k1
                case measure => have := HK.out; omega
                case rel => exact ⟨l2.tail, b2, HX2, H4, hid (by rw [List.length_tail]; have := HL.out; have := HLT.out; omega), hid (by have := HK.out; omega)⟩
set_option maxHeartbeats 8000000 in
set_option maxRecDepth 100000 in
theorem item_gives {W0 w : World} {l : List Pl.Tok} {bx : List Pl.BoxL} (h : RS W0 w l bx) {lx : List Pl.Tok} {bxx : List Pl.BoxL} {ex : Int} (hx : Pl.itemM l bx = ((lx, bxx), ex)) :
    Calls Tryd.prog 34 #[.pointer (some ⟨W0.heap.size, 0, none⟩)] w fun e w' => e = .returned (.int .i64 ex) ∧ (ex = 0 → RS W0 w' lx bxx) ∧ Below W0.heap.size W0 w' := by
  obtain ⟨n, hn⟩ : ∃ n, (l.takeWhile Pl.wordT).length = n := ⟨_, rfl⟩
  have hw := hid (words_gives h hn)
  have H := hid h
  have hz := h.small.len
  clear h
  unfold Pl.itemM at hx
  by_cases hn0 : n = 0
  case pos =>
    have hnil : l.takeWhile Pl.wordT = [] := List.eq_nil_of_length_eq_zero (by rw [hn]; exact hn0)
    rw [if_neg (fun q => q.1 hnil)] at hx
    have HA := hid hx
    subst hn0
    clear hx hnil hn hz
    go_enter Tryd.func34, Tryd.ntmps34
    go_wp2_with (first
      | (go_at_call 57; refine hw.out.mono ?_; rintro e w1 ⟨rfl, b1⟩; have H1 := hid (H.out.keep b1); clear b1)
      | (go_at_call 59; refine (mailbox_gives H1.out HA.out).mono ?_; rintro e w3 ⟨rfl, hR, hB⟩))
    go_ret
    exact ⟨rfl, hR, hB⟩
  case neg =>
    have hne : l.takeWhile Pl.wordT ≠ [] := fun q => hn0 (by rw [← hn, q]; rfl)
    have cn1 : ((n : Int) == 0) = false := beq_eq_false_iff_ne.2 (by omega)
    have cn2 : (n == 0) = false := beq_eq_false_iff_ne.2 hn0
    cases hq : Pl.headIs (l.dropWhile Pl.wordT) [58] with
    | false =>
      rw [if_neg (fun q => by rw [hq] at q; exact absurd q.2 (by decide))] at hx
      have HA := hid hx
      have HN := hid hn
      have HQ := hid hq
      clear hx hn hq hz hne
      go_enter Tryd.func34, Tryd.ntmps34
      go_wp2_with (first
        | (go_at_call 58; refine (follows_gives H1.out HN.out HQ.out).mono ?_; rintro e w2 ⟨rfl, rfl⟩)
        | (go_at_call 57; refine hw.out.mono ?_; rintro e w1 ⟨rfl, b1⟩; have H1 := hid (H.out.keep b1); clear b1)
        | (go_at_call 59; refine (mailbox_gives H1.out HA.out).mono ?_; rintro e w3 ⟨rfl, hR, hB⟩))
      go_ret
      exact ⟨rfl, hR, hB⟩
    | true =>
      rw [if_pos ⟨hne, hq⟩] at hx
      obtain ⟨t, r, hr, ht⟩ := Pl.headIs_ne hq
      have hnl : n + 1 ≤ l.length := by
        have h1 := congrArg List.length (List.takeWhile_append_dropWhile (p := Pl.wordT) (l := l))
        rw [List.length_append, hn, hr, List.length_cons] at h1
        omega
      have hdr : l.drop (n + 1) = (l.dropWhile Pl.wordT).tail := by rw [drop_tail, ← hn, drop_while]
      rw [← hdr] at hx
      have HA := hid hx
      have HN := hid hn
      have HQ := hid hq
      have HL := hid hnl
      clear hx hn hq hdr hr ht hne
      obtain ⟨m, hm⟩ : ∃ m, n + 1 = m := ⟨_, rfl⟩
      rw [hm] at HA HL
      have hwr : wrap64 ((n : Int) + 1) = (m : Int) := by rw [Pl.wrap_succ n (by have := HL.out; omega), hm]
      have hm0 : ((0 : Int) ≤ (m : Int)) = True := eq_true (by omega)
      have HZ := hid hz
      have HM := hid hm
      clear hm hz hnl
      go_enter Tryd.func34, Tryd.ntmps34
      go_wp2_with (first
        | (go_at_call 58; refine (follows_gives H1.out HN.out HQ.out).mono ?_; rintro e w2 ⟨rfl, rfl⟩)
        | (go_at_call 57; refine hw.out.mono ?_; rintro e w1 ⟨rfl, b1⟩; have H1 := hid (H.out.keep b1); obtain ⟨A, ln, c, v, hb1, hln, hlc, hA1⟩ := H1.out.holds; obtain ⟨ad, rfl⟩ := hA1 (by have := HL.out; have := HM.out; omega); have r0 := (blk_cell hb1 0).trans rfl; have rf0 := blk_frozen hb1 0; have c1 : ((m : Int) ≤ (ln : Int)) = True := eq_true (by have := HL.out; omega); have c2 : ((ln : Int) ≤ (c : Int)) = True := eq_true (by omega); have c3 : ((m : Int) ≤ (c : Int)) = True := eq_true (by have := HL.out; omega); have c4 : (m ≤ ln) = True := eq_true (by have := HL.out; omega); have c5 : (ln ≤ c) = True := eq_true hlc; have c6 : (m ≤ c) = True := eq_true (by have := HL.out; omega); have HBK := hid hb1; clear hln hlc hA1 hb1)
        | (go_at_call 60; refine (group_gives (RS.cutW H1.out HBK.out m HL.out _ _ _ (by first | rfl | (simp [*]; done) | (simp [*]; rfl)) (by first | rfl | (simp; done) | omega) (by first | rfl | (simp; done) | omega)) HA.out (Nat.lt_succ_self _)).mono ?_; rintro e w3 ⟨rfl, hR, hB⟩))
      all_goals
        go_ret
        exact ⟨rfl, hR, hB⟩
theorem RS.start {W : World} {l : List Pl.Tok} {A : Option Addr} {c : Nat} (hC : Kd.C k98 W A l.length (l.map Pl.tok142)) (hc : l.length ≤ c) (hS : Small l) (hG : Glob W) :
    RS W (W.alloc (.cells #[.slice A l.length c, .slice none 0 0] 67)) l [] :=
  ⟨⟨A, c, .slice none 0 0, blk_new W _, hC, hc, Kd.R_nil _ _ _ _ _⟩, (Below.refl _ _).alloc (Nat.le_refl _) _, hS, by simp, hG⟩
end Go.Proofs.YtbjbpgmjijeppaaDoor.Fn
set_option linter.unusedVariables false
set_option linter.unusedSimpArgs false
namespace Go.Proofs.YtbjbpgmjijeppaaDoor.Fn
open Go.RowKit Go.Proofs.YtbjbpgmjijeppaaDoorW.PrintWords Go.Proofs.YtbjbpgmjijeppaaDoorW.PrintLast Go.Proofs.YtbjbpgmjijeppaaDoorW.PrintMore

/-! Layer 14: mbx.Read -/
def mbx_Read.f (a0 : ByteArray) : Option (List S31 × Int) := if a0.size ≤ 50000 then some ((Pl.readL (Pl.bs a0)).1.map toBox, (Pl.readL (Pl.bs a0)).2) else none
theorem comma_gives {W0 w : World} {l : List Pl.Tok} {bx : List Pl.BoxL} (h : RS W0 w l bx) {q : Bool} (hq : Pl.headIs l [44] = q) :
    Calls Tryd.prog 35 #[.pointer (some ⟨W0.heap.size, 0, none⟩), .string ⟨#[44]⟩] w fun e w' => e = .returned (.bool q) ∧ (q = true → RS W0 w' l.tail bx) ∧ Below W0.heap.size W0 w' := by
  refine (take_gives h hq).mono ?_
  rintro e w' ⟨rfl, h1⟩
  exact ⟨rfl, fun hq => by rw [if_pos hq] at h1; exact h1, h1.below⟩
set_option maxHeartbeats 8000000 in
set_option maxRecDepth 100000 in
theorem mbx_Read.calls (a0 : ByteArray) (r1 : List S31) (r2 : Int) (w : World) (hG : Glob w) (h : mbx_Read.f a0 = some (r1, r2)) :
    Calls Tryd.prog 17 #[.string a0] w fun e w' => ∃ v0_ : Value, e = .returned (.tuple #[v0_, .int .i64 r2]) ∧ Kd.R k31 31 w' w.heap.size (fun _ => True) v0_ r1 ∧ Below w.heap.size w w' := by
  unfold mbx_Read.f at h
  by_cases hs : a0.size ≤ 50000
  case neg => rw [if_neg hs] at h; exact absurd h (by simp)
  rw [if_pos hs] at h
  simp only [Option.some.injEq, Prod.mk.injEq] at h
  obtain ⟨hr1, hr2⟩ := h
  have hsc := Pl.lexScan_is a0 (by omega) (4 * a0.size + 20) (Nat.le_refl _)
  have hbd := Pl.scanL_bound (Pl.bs a0)
  have hok := Pl.scan_ok (Pl.bs a0).length [] .out (Pl.bs a0) (fun x hx => by cases hx)
  rw [show Pl.scan (Pl.bs a0).length [] .out (Pl.bs a0) = Pl.scanL [] .out (Pl.bs a0) from rfl] at hok
  obtain ⟨⟨T, e0⟩, hT⟩ : ∃ x, Pl.scanL [] .out (Pl.bs a0) = x := ⟨_, rfl⟩
  unfold Pl.readL at hr1 hr2
  rw [hT] at hr1 hr2 hsc hbd hok
  rw [Pl.bs_length] at hbd
  have hscan := hid (lex_Scan.calls _ a0 _ _ w hsc)
  have hS : Small T := ⟨by have h1 : T.length ≤ a0.size := hbd.1; omega, by have h1 : (Pl.cat T).length ≤ a0.size := hbd.2; omega, hok⟩
  clear hsc hok hT
  by_cases he : e0 = 0
  case neg =>
    rw [if_pos he] at hr1 hr2
    simp only [List.map_nil] at hr1 hr2
    subst hr1 hr2
    have ce : (e0 != 0) = true := bne_iff_ne.2 he
    clear hS hbd
    go_enter Tryd.func17, Tryd.ntmps17
    go_wp2_with (go_at_call 33; refine hscan.out.mono ?_; rintro e w1 ⟨v0, rfl, hR, b1⟩)
    go_ret2
    exact ⟨_, rfl, Kd.R_nil _ _ _ _ _, b1⟩
  case pos =>
    subst he
    rw [if_neg (by simp)] at hr1 hr2
    obtain ⟨⟨bf, ef⟩, hX⟩ : ∃ x, Pl.readM (T.length + 1) T [] = x := ⟨_, rfl⟩
    unfold Pl.readT at hr1 hr2
    rw [hX] at hr1 hr2
    simp only [] at hr1 hr2
    subst hr1 hr2
    have HX0 := hid hX
    have HS := hid hS
    have HG0 := hid hG
    clear hX hS hbd hG
    go_enter Tryd.func17, Tryd.ntmps17
    go_wp2_with (go_at_call 33; refine hscan.out.mono ?_; rintro e w1 ⟨v0, rfl, hR, b1⟩; obtain ⟨A, c, rfl⟩ := Kd.R_slice hR; have HR := hid hR; have HB1 := hid b1; obtain ⟨n, hn⟩ : ∃ n, (T.map Pl.tok142).length = n := ⟨_, rfl⟩; rw [hn] at HR ⊢; have HN := hid hn; clear hR b1 hn)
    go_loopg [7] (T.length + 1) (fun kq v7 w' => ∃ (l1 : List Pl.Tok) (bx1 : List Pl.BoxL), Hid (Pl.readM kq l1 bx1 = (bf, ef)) ∧ Hid (RS w1 w' l1 bx1) ∧ Hid (l1.length < kq) ∧ Hid (kq ≤ T.length + 1))
    case atStart =>
      refine ⟨T, [], HX0, hid ?_, hid (Nat.lt_succ_self _), hid (Nat.le_refl _)⟩
      obtain ⟨h1, h2, h3⟩ := Kd.R_reads' HR.out
      have hn : n = T.length := by rw [← HN.out, List.length_map]
      subst hn
      rw [List.length_map] at h3
      exact RS.start h3 h2 HS.out (HG0.out.below HB1.out)
    case round =>
      clear HX0 HR HN hscan HS
      obtain ⟨l1, bx1, HX, H, HL, HK⟩ := hrel
      cases gk with
      | zero => exact absurd HL.out (by omega)
      | succ k1 =>
        have hX := HX.out
        clear HX
        rw [Pl.readM] at hX
        obtain ⟨⟨⟨l2, b2⟩, e2⟩, hA⟩ : ∃ x, Pl.itemM l1 bx1 = x := ⟨_, rfl⟩
        rw [hA] at hX
        have HA := hid hA
        clear hA
        by_cases he : e2 = 0
        case neg =>
          rw [if_pos he] at hX
          simp only [Prod.mk.injEq] at hX
          obtain ⟨rfl, rfl⟩ := hX
          have ce : (e2 != 0) = true := bne_iff_ne.2 he
          go_wp2_with (go_at_call 34; refine (item_gives H.out HA.out).mono ?_; rintro e w2 ⟨rfl, h2, b2_⟩; have B2 := hid b2_; clear h2 b2_)
          go_ret2
          exact ⟨_, rfl, Kd.R_nil _ _ _ _ _, HB1.out.trans (B2.out.mono HB1.out.size)⟩
        case pos =>
          subst he
          rw [if_neg (by simp)] at hX
          obtain ⟨_, _, hlt, _⟩ := Pl.item_more HA.out
          have HLT := hid hlt
          clear hlt
          by_cases c3 : l2 = []
          case pos =>
            rw [if_pos c3] at hX
            simp only [Prod.mk.injEq] at hX
            obtain ⟨rfl, rfl⟩ := hX
            subst c3
            go_wp2_with (go_at_call 34; refine (item_gives H.out HA.out).mono ?_; rintro e w2 ⟨rfl, h2, b2_⟩; have H2 := hid (h2 (by trivial)); clear h2 b2_; obtain ⟨A2, ln, c2, v2, hb2, hln, hlc, hA1⟩ := H2.out.holds; rw [List.length_nil] at hln; subst hln; have HBK := hid hb2; have r0 := (blk_cell hb2 0).trans rfl; have r1 := (blk_cell hb2 1).trans rfl; clear hb2 hlc hA1)
            go_ret2
            exact ⟨_, rfl, Kd.R_lower (H2.out.boxes HBK.out) (Nat.le_trans HB1.out.size (Nat.le_succ _)), HB1.out.trans (H2.out.below.mono HB1.out.size)⟩
          case neg =>
            rw [if_neg c3] at hX
            cases c4 : Pl.headIs l2 [44] with
            | false =>
              rw [if_neg (show ¬ Pl.headIs l2 [44] = true by rw [c4]; decide)] at hX
              simp only [Prod.mk.injEq] at hX
              obtain ⟨rfl, rfl⟩ := hX
              have C4 := hid c4
              have C3 := hid c3
              clear c4 c3
              go_wp2_with (first
                | (go_at_call 34; refine (item_gives H.out HA.out).mono ?_; rintro e w2 ⟨rfl, h2, b2_⟩; have H2 := hid (h2 (by trivial)); clear h2 b2_; obtain ⟨A2, ln, c2, v2, hb2, hln, hlc, hA1⟩ := H2.out.holds; have hl0 : ln ≠ 0 := (by rw [hln]; exact fun q => C3.out (List.eq_nil_of_length_eq_zero q)); have cl1 : ((ln : Int) == 0) = false := beq_eq_false_iff_ne.2 (by omega); have cl2 : (ln == 0) = false := beq_eq_false_iff_ne.2 hl0; have r0 := (blk_cell hb2 0).trans rfl; clear hb2 hlc hA1 hln hl0)
                | (go_at_call 35; refine (comma_gives H2.out C4.out).mono ?_; rintro e w3 ⟨rfl, h3, b3⟩; have B3 := hid b3; clear h3 b3))
              go_ret2
              exact ⟨_, rfl, Kd.R_nil _ _ _ _ _, HB1.out.trans (B3.out.mono HB1.out.size)⟩
            | true =>
              rw [if_pos c4] at hX
              have C4 := hid c4
              have C3 := hid c3
              have HX2 := hid hX
              clear c4 c3 hX
              go_wp2_with (first
                | (go_at_call 34; refine (item_gives H.out HA.out).mono ?_; rintro e w2 ⟨rfl, h2, b2_⟩; have H2 := hid (h2 (by trivial)); clear h2 b2_; obtain ⟨A2, ln, c2, v2, hb2, hln, hlc, hA1⟩ := H2.out.holds; have hl0 : ln ≠ 0 := (by rw [hln]; exact fun q => C3.out (List.eq_nil_of_length_eq_zero q)); have cl1 : ((ln : Int) == 0) = false := beq_eq_false_iff_ne.2 (by omega); have cl2 : (ln == 0) = false := beq_eq_false_iff_ne.2 hl0; have r0 := (blk_cell hb2 0).trans rfl; clear hb2 hlc hA1 hln hl0)
                | (go_at_call 35; refine (comma_gives H2.out C4.out).mono ?_; rintro e w3 ⟨rfl, h3, b3⟩; have H3 := hid (h3 (by trivial)); clear h3 b3))
              go_roundg k1
              case measure => have := HK.out; omega
              case rel => exact ⟨l2.tail, b2, HX2, H3, hid (by rw [List.length_tail]; have := HL.out; have := HLT.out; omega), hid (by have := HK.out; omega)⟩
end Go.Proofs.YtbjbpgmjijeppaaDoor.Fn
namespace Go.Proofs.YtbjbpgmjijeppaaDoor.Fn
open Go.RowKit Go.Proofs.YtbjbpgmjijeppaaDoorW.PrintWords Go.Proofs.YtbjbpgmjijeppaaDoorW.PrintLast Go.Proofs.YtbjbpgmjijeppaaDoorW.PrintMore
attribute [local go_sem] max2_int min2_int max_two min_two max_three min_three max_four min_four
set_option linter.unusedVariables false
set_option linter.unusedSimpArgs false

/-! ### mbx_One: function 19 -/
def mbx_One.f (a0 : ByteArray) : Option (ByteArray × ByteArray × ByteArray × Int) := (mbx_Read.f a0).bind fun bt406 => (if bt406.2 = 0 then (if (bt406.1.length : Int) = 1 then (if 0 < (bt406.1.length : Int) then (some ((rd_T31 bt406.1 0).f0, (rd_T31 bt406.1 0).f1.f0, (rd_T31 bt406.1 0).f1.f1, 0)) else (none)) else (some ((⟨#[]⟩ : ByteArray), (⟨#[]⟩ : ByteArray), (⟨#[]⟩ : ByteArray), 130))) else (some ((⟨#[]⟩ : ByteArray), (⟨#[]⟩ : ByteArray), (⟨#[]⟩ : ByteArray), bt406.2)))
set_option maxHeartbeats 8000000 in
set_option maxRecDepth 100000 in
theorem mbx_One.calls (a0 : ByteArray) (r1 : ByteArray) (r2 : ByteArray) (r3 : ByteArray) (r4 : Int) (w : World) (hG : Glob w) (h : mbx_One.f a0 = some (r1, r2, r3, r4)) :
  Calls Tryd.prog 19 #[.string a0] w fun e w' => e = .returned (.tuple #[.agg #[.string r1, .string r2, .string r3], .int .i64 r4]) ∧ Below w.heap.size w w' := by
 have hu31 := Tryd.underlying31
 have HB := Aside0.mk (Below.refl w.heap.size w)
 have H : ((mbx_Read.f a0).bind fun bt406 => (if bt406.2 = 0 then (if (bt406.1.length : Int) = 1 then (if 0 < (bt406.1.length : Int) then (some ((rd_T31 bt406.1 0).f0, (rd_T31 bt406.1 0).f1.f0, (rd_T31 bt406.1 0).f1.f1, 0)) else (none)) else (some ((⟨#[]⟩ : ByteArray), (⟨#[]⟩ : ByteArray), (⟨#[]⟩ : ByteArray), 130))) else (some ((⟨#[]⟩ : ByteArray), (⟨#[]⟩ : ByteArray), (⟨#[]⟩ : ByteArray), bt406.2)))) = some (r1, r2, r3, r4) := h
 clear h
 replace H := Option.bind_eq_some_iff.mp H
 obtain ⟨⟨t406, t407⟩, A20, H⟩ := H
 replace H : (if t407 = 0 then (if (t406.length : Int) = 1 then (if 0 < (t406.length : Int) then (some ((rd_T31 t406 0).f0, (rd_T31 t406 0).f1.f0, (rd_T31 t406 0).f1.f1, 0)) else (none)) else (some ((⟨#[]⟩ : ByteArray), (⟨#[]⟩ : ByteArray), (⟨#[]⟩ : ByteArray), 130))) else (some ((⟨#[]⟩ : ByteArray), (⟨#[]⟩ : ByteArray), (⟨#[]⟩ : ByteArray), t407))) = some (r1, r2, r3, r4) := H
 have A2 := Aside0.mk A20
 clear A20
 by_cases c3 : t407 = 0
 ·rw [if_pos c3] at H
  have c3b0 : (t407 == 0) = true := beq_iff_eq.mpr c3
  have c3b1 : (t407 != 0) = false := bne_eq_false_iff_eq.mpr c3
  clear c3
  by_cases c4 : (t406.length : Int) = 1
  ·rw [if_pos c4] at H
   have c4b0 : ((t406.length : Int) == 1) = true := beq_iff_eq.mpr c4
   have c4b1 : ((t406.length : Int) != 1) = false := bne_eq_false_iff_eq.mpr c4
   clear c4
   by_cases c5 : 0 < (t406.length : Int)
   ·rw [if_pos c5] at H
    have c5b0 : decide (0 < (t406.length : Int)) = true := decide_eq_true c5
    have c5b1 : decide (0 < t406.length) = true := decide_eq_true (by omega)
    clear c5
    simp only [Option.some.injEq, Prod.mk.injEq] at H
    obtain ⟨rfl, rfl, rfl, rfl⟩ := H
    go_enter Tryd.func19, Tryd.ntmps19
    go_wp2_with (first | ((with_reducible refine gate_dst (N := 2) rfl ?_); refine box_event ?hg (N := 2) ?hd (cs := #[.string (⟨#[]⟩ : ByteArray), .string (⟨#[]⟩ : ByteArray), .string (⟨#[]⟩ : ByteArray)]) (t := 31) ?hr ?_; (case hd => rfl); (case hg => rfl); (case hr => first | (go_simp; done) | (go_simp; rfl)); intro gb405 hg w6 hbox hb; have n0_ := Aside0.mk (below_step bw hb); have n1_ := Aside0.mk (hbox); have n2_ := Aside0.mk ((by rw [hg]; exact (below_size bw) : w.heap.size ≤ gb405)); have n3_ := Aside0.mk ((by rw [hg]; exact (below_size bw) : w.heap.size ≤ gb405)); clear HB; have HB := n0_; have BK405 := n1_; have GW405 := n2_; have GE405 := n3_; clear n0_ n1_ n2_ n3_; clear hb hbox hg) | ((with_reducible refine gate_callee (f := 17) rfl ?_); refine goesL_ (some 8) rfl rfl Tryd.func17 (by kernel_rfl) rfl #[.string a0] rfl am ?_; (with_reducible refine (mbx_Read.calls (hG := by first | exact hG | exact Glob.below hG (by first | exact HB.out | (repeat (first | (with_reducible first | exact HB.out | apply below_alloc | apply pw_below_drewN | apply below_drew1 | refine below_set ?_ GE405.out) | exact HB.out))) | exact Glob.drawn hG (by repeat (first | exact Drawn0.refl _ | apply Drawn0.step))) a0 t406 t407 _ A2.out).mono ?_); rintro e w7 ⟨v408, rfl, ho0, hb⟩; refine ⟨_, rfl, ?_⟩; have n0_ := Aside0.mk (Kd.R_lower (Kd.R_newB ho0 (g := gb405) (o := .cells #[.string (⟨#[]⟩ : ByteArray), .string (⟨#[]⟩ : ByteArray), .string (⟨#[]⟩ : ByteArray)] 31 (0, 0)) bk) (below_size bwS)); have n1_ := Aside0.mk (blk_below (g := gb405) (o := .cells #[.string (⟨#[]⟩ : ByteArray), .string (⟨#[]⟩ : ByteArray), .string (⟨#[]⟩ : ByteArray)] 31 (0, 0)) bk hb); have n2_ := Aside0.mk (below_step bwS hb); clear BK405; clear HB; have HO409 := n0_; have BK405 := n1_; have HB := n2_; clear n0_ n1_ n2_; (try clear hb); (try clear hb2); (try clear hk); (try clear hi); (try clear ho0); obtain ⟨Ao8, co8, eo8⟩ := Kd.R_slice HO409.out; subst eo8; have p410 : 0 ≤ (0 : Int) := (by omega); have q410 : 0 < (t406.length : Int) := od; obtain ⟨ad410, e410, hx410_0, hx410_1, hx410_2⟩ := at_T31 (Kd.R_reads' HO409.out).2.2 0 p410 q410; cases e410; have qi410 : (0 < t406.length) = True := eq_true (by omega); (try rw [show ((0 : Int)).toNat = 0 from rfl] at hx410_0); (try rw [show 0 * 3 = 0 from rfl] at hx410_0); (try rw [Addr.add_zero'] at hx410_0); (try rw [show ((0 : Int)).toNat = 0 from rfl] at hx410_1); (try rw [show 0 * 3 = 0 from rfl] at hx410_1); (try rw [Addr.add_zero'] at hx410_1); (try rw [show ((0 : Int)).toNat = 0 from rfl] at hx410_2); (try rw [show 0 * 3 = 0 from rfl] at hx410_2); (try rw [Addr.add_zero'] at hx410_2); replace p410 := eq_true p410; replace q410 := eq_true q410; have hcz9_0 : w7.cell? ⟨gb405, 0, none⟩ = some (.string (⟨#[]⟩ : ByteArray)) := (blk_cell BK405.out 0).trans rfl; have hcz9_1 : w7.cell? ⟨gb405, 1, none⟩ = some (.string (⟨#[]⟩ : ByteArray)) := (blk_cell BK405.out 1).trans rfl; have hcz9_2 : w7.cell? ⟨gb405, 2, none⟩ = some (.string (⟨#[]⟩ : ByteArray)) := (blk_cell BK405.out 2).trans rfl; have hfz9_0 := blk_frozen BK405.out 0; have hfz9_1 := blk_frozen BK405.out 1; have hfz9_2 := blk_frozen BK405.out 2))
    refine bodyPost_ret (results_ct rfl _ _ gb405 31 #[.string ((rd_T31 t406 0).f0), .string ((rd_T31 t406 0).f1.f0), .string ((rd_T31 t406 0).f1.f1)] (0, 0) _ rfl (by (with_reducible repeat (first | refine blk_drewN ?_ _ | refine blk_drew ?_ | refine blk_alloc ?_ _)); refine blk_put (cs := #[.string ((rd_T31 t406 0).f0), .string ((rd_T31 t406 0).f1.f0), .string (⟨#[]⟩ : ByteArray)]) ?_ 2 _ rfl; (with_reducible repeat (first | refine blk_drewN ?_ _ | refine blk_drew ?_ | refine blk_alloc ?_ _)); refine blk_put (cs := #[.string ((rd_T31 t406 0).f0), .string (⟨#[]⟩ : ByteArray), .string (⟨#[]⟩ : ByteArray)]) ?_ 1 _ rfl; (with_reducible repeat (first | refine blk_drewN ?_ _ | refine blk_drew ?_ | refine blk_alloc ?_ _)); refine blk_put (cs := #[.string (⟨#[]⟩ : ByteArray), .string (⟨#[]⟩ : ByteArray), .string (⟨#[]⟩ : ByteArray)]) ?_ 0 _ rfl; (with_reducible repeat (first | refine blk_drewN ?_ _ | refine blk_drew ?_ | refine blk_alloc ?_ _)); exact BK405.out) Tryd.underlying31 rfl (by kernel_rfl)) rfl ?_
    exact ⟨by first | rfl | (simp [errW_none, errW_some] <;> rfl) | (simp [*, errW_none, errW_some] <;> rfl), bwS⟩
   ·rw [if_neg c5] at H
    exact absurd H (by simp)
  ·rw [if_neg c4] at H
   have c4b0 : ((t406.length : Int) == 1) = false := beq_eq_false_iff_ne.mpr c4
   have c4b1 : ((t406.length : Int) != 1) = true := bne_iff_ne.mpr c4
   simp only [Option.some.injEq, Prod.mk.injEq] at H
   obtain ⟨rfl, rfl, rfl, rfl⟩ := H
   go_enter Tryd.func19, Tryd.ntmps19
   go_wp2_with (first | ((with_reducible refine gate_dst (N := 2) rfl ?_); refine box_event ?hg (N := 2) ?hd (cs := #[.string (⟨#[]⟩ : ByteArray), .string (⟨#[]⟩ : ByteArray), .string (⟨#[]⟩ : ByteArray)]) (t := 31) ?hr ?_; (case hd => rfl); (case hg => rfl); (case hr => first | (go_simp; done) | (go_simp; rfl)); intro gb405 hg w10 hbox hb; have n0_ := Aside0.mk (below_step bw hb); have n1_ := Aside0.mk (hbox); have n2_ := Aside0.mk ((by rw [hg]; exact (below_size bw) : w.heap.size ≤ gb405)); have n3_ := Aside0.mk ((by rw [hg]; exact (below_size bw) : w.heap.size ≤ gb405)); clear HB; have HB := n0_; have BK405 := n1_; have GW405 := n2_; have GE405 := n3_; clear n0_ n1_ n2_ n3_; clear hb hbox hg) | ((with_reducible refine gate_callee (f := 17) rfl ?_); refine goesL_ (some 8) rfl rfl Tryd.func17 (by kernel_rfl) rfl #[.string a0] rfl am ?_; (with_reducible refine (mbx_Read.calls (hG := by first | exact hG | exact Glob.below hG (by first | exact HB.out | (repeat (first | (with_reducible first | exact HB.out | apply below_alloc | apply pw_below_drewN | apply below_drew1 | refine below_set ?_ GE405.out) | exact HB.out))) | exact Glob.drawn hG (by repeat (first | exact Drawn0.refl _ | apply Drawn0.step))) a0 t406 t407 _ A2.out).mono ?_); rintro e w11 ⟨v408, rfl, ho0, hb⟩; refine ⟨_, rfl, ?_⟩; have n0_ := Aside0.mk (Kd.R_lower (Kd.R_newB ho0 (g := gb405) (o := .cells #[.string (⟨#[]⟩ : ByteArray), .string (⟨#[]⟩ : ByteArray), .string (⟨#[]⟩ : ByteArray)] 31 (0, 0)) bk) (below_size bwS)); have n1_ := Aside0.mk (blk_below (g := gb405) (o := .cells #[.string (⟨#[]⟩ : ByteArray), .string (⟨#[]⟩ : ByteArray), .string (⟨#[]⟩ : ByteArray)] 31 (0, 0)) bk hb); have n2_ := Aside0.mk (below_step bwS hb); clear BK405; clear HB; have HO409 := n0_; have BK405 := n1_; have HB := n2_; clear n0_ n1_ n2_; (try clear hb); (try clear hb2); (try clear hk); (try clear hi); (try clear ho0); obtain ⟨Ao12, co12, eo12⟩ := Kd.R_slice HO409.out; subst eo12; have hcz13_0 : w11.cell? ⟨gb405, 0, none⟩ = some (.string (⟨#[]⟩ : ByteArray)) := (blk_cell BK405.out 0).trans rfl; have hcz13_1 : w11.cell? ⟨gb405, 1, none⟩ = some (.string (⟨#[]⟩ : ByteArray)) := (blk_cell BK405.out 1).trans rfl; have hcz13_2 : w11.cell? ⟨gb405, 2, none⟩ = some (.string (⟨#[]⟩ : ByteArray)) := (blk_cell BK405.out 2).trans rfl; have hfz13_0 := blk_frozen BK405.out 0; have hfz13_1 := blk_frozen BK405.out 1; have hfz13_2 := blk_frozen BK405.out 2))
   refine bodyPost_ret (results_ct rfl _ _ gb405 31 #[.string (⟨#[]⟩ : ByteArray), .string (⟨#[]⟩ : ByteArray), .string (⟨#[]⟩ : ByteArray)] (0, 0) _ rfl (by (with_reducible repeat (first | refine blk_drewN ?_ _ | refine blk_drew ?_ | refine blk_alloc ?_ _)); refine blk_put (cs := #[.string (⟨#[]⟩ : ByteArray), .string (⟨#[]⟩ : ByteArray), .string (⟨#[]⟩ : ByteArray)]) ?_ 2 _ rfl; (with_reducible repeat (first | refine blk_drewN ?_ _ | refine blk_drew ?_ | refine blk_alloc ?_ _)); refine blk_put (cs := #[.string (⟨#[]⟩ : ByteArray), .string (⟨#[]⟩ : ByteArray), .string (⟨#[]⟩ : ByteArray)]) ?_ 1 _ rfl; (with_reducible repeat (first | refine blk_drewN ?_ _ | refine blk_drew ?_ | refine blk_alloc ?_ _)); refine blk_put (cs := #[.string (⟨#[]⟩ : ByteArray), .string (⟨#[]⟩ : ByteArray), .string (⟨#[]⟩ : ByteArray)]) ?_ 0 _ rfl; (with_reducible repeat (first | refine blk_drewN ?_ _ | refine blk_drew ?_ | refine blk_alloc ?_ _)); exact BK405.out) Tryd.underlying31 rfl (by kernel_rfl)) rfl ?_
   exact ⟨by first | rfl | (simp [errW_none, errW_some] <;> rfl) | (simp [*, errW_none, errW_some] <;> rfl), bwS⟩
 ·rw [if_neg c3] at H
  have c3b0 : (t407 == 0) = false := beq_eq_false_iff_ne.mpr c3
  have c3b1 : (t407 != 0) = true := bne_iff_ne.mpr c3
  simp only [Option.some.injEq, Prod.mk.injEq] at H
  obtain ⟨rfl, rfl, rfl, rfl⟩ := H
  go_enter Tryd.func19, Tryd.ntmps19
  go_wp2_with (first | ((with_reducible refine gate_dst (N := 2) rfl ?_); refine box_event ?hg (N := 2) ?hd (cs := #[.string (⟨#[]⟩ : ByteArray), .string (⟨#[]⟩ : ByteArray), .string (⟨#[]⟩ : ByteArray)]) (t := 31) ?hr ?_; (case hd => rfl); (case hg => rfl); (case hr => first | (go_simp; done) | (go_simp; rfl)); intro gb405 hg w14 hbox hb; have n0_ := Aside0.mk (below_step bw hb); have n1_ := Aside0.mk (hbox); have n2_ := Aside0.mk ((by rw [hg]; exact (below_size bw) : w.heap.size ≤ gb405)); have n3_ := Aside0.mk ((by rw [hg]; exact (below_size bw) : w.heap.size ≤ gb405)); clear HB; have HB := n0_; have BK405 := n1_; have GW405 := n2_; have GE405 := n3_; clear n0_ n1_ n2_ n3_; clear hb hbox hg) | ((with_reducible refine gate_callee (f := 17) rfl ?_); refine goesL_ (some 8) rfl rfl Tryd.func17 (by kernel_rfl) rfl #[.string a0] rfl am ?_; (with_reducible refine (mbx_Read.calls (hG := by first | exact hG | exact Glob.below hG (by first | exact HB.out | (repeat (first | (with_reducible first | exact HB.out | apply below_alloc | apply pw_below_drewN | apply below_drew1 | refine below_set ?_ GE405.out) | exact HB.out))) | exact Glob.drawn hG (by repeat (first | exact Drawn0.refl _ | apply Drawn0.step))) a0 t406 t407 _ A2.out).mono ?_); rintro e w15 ⟨v408, rfl, ho0, hb⟩; refine ⟨_, rfl, ?_⟩; have n0_ := Aside0.mk (Kd.R_lower (Kd.R_newB ho0 (g := gb405) (o := .cells #[.string (⟨#[]⟩ : ByteArray), .string (⟨#[]⟩ : ByteArray), .string (⟨#[]⟩ : ByteArray)] 31 (0, 0)) bk) (below_size bwS)); have n1_ := Aside0.mk (blk_below (g := gb405) (o := .cells #[.string (⟨#[]⟩ : ByteArray), .string (⟨#[]⟩ : ByteArray), .string (⟨#[]⟩ : ByteArray)] 31 (0, 0)) bk hb); have n2_ := Aside0.mk (below_step bwS hb); clear BK405; clear HB; have HO409 := n0_; have BK405 := n1_; have HB := n2_; clear n0_ n1_ n2_; (try clear hb); (try clear hb2); (try clear hk); (try clear hi); (try clear ho0); have hcz16_0 : w15.cell? ⟨gb405, 0, none⟩ = some (.string (⟨#[]⟩ : ByteArray)) := (blk_cell BK405.out 0).trans rfl; have hcz16_1 : w15.cell? ⟨gb405, 1, none⟩ = some (.string (⟨#[]⟩ : ByteArray)) := (blk_cell BK405.out 1).trans rfl; have hcz16_2 : w15.cell? ⟨gb405, 2, none⟩ = some (.string (⟨#[]⟩ : ByteArray)) := (blk_cell BK405.out 2).trans rfl; have hfz16_0 := blk_frozen BK405.out 0; have hfz16_1 := blk_frozen BK405.out 1; have hfz16_2 := blk_frozen BK405.out 2))
  refine bodyPost_ret (results_ct rfl _ _ gb405 31 #[.string (⟨#[]⟩ : ByteArray), .string (⟨#[]⟩ : ByteArray), .string (⟨#[]⟩ : ByteArray)] (0, 0) _ rfl (by (with_reducible repeat (first | refine blk_drewN ?_ _ | refine blk_drew ?_ | refine blk_alloc ?_ _)); refine blk_put (cs := #[.string (⟨#[]⟩ : ByteArray), .string (⟨#[]⟩ : ByteArray), .string (⟨#[]⟩ : ByteArray)]) ?_ 2 _ rfl; (with_reducible repeat (first | refine blk_drewN ?_ _ | refine blk_drew ?_ | refine blk_alloc ?_ _)); refine blk_put (cs := #[.string (⟨#[]⟩ : ByteArray), .string (⟨#[]⟩ : ByteArray), .string (⟨#[]⟩ : ByteArray)]) ?_ 1 _ rfl; (with_reducible repeat (first | refine blk_drewN ?_ _ | refine blk_drew ?_ | refine blk_alloc ?_ _)); refine blk_put (cs := #[.string (⟨#[]⟩ : ByteArray), .string (⟨#[]⟩ : ByteArray), .string (⟨#[]⟩ : ByteArray)]) ?_ 0 _ rfl; (with_reducible repeat (first | refine blk_drewN ?_ _ | refine blk_drew ?_ | refine blk_alloc ?_ _)); exact BK405.out) Tryd.underlying31 rfl (by kernel_rfl)) rfl ?_
  exact ⟨by first | rfl | (simp [errW_none, errW_some] <;> rfl) | (simp [*, errW_none, errW_some] <;> rfl), bwS⟩

end Go.Proofs.YtbjbpgmjijeppaaDoor.Fn
namespace Go.Proofs.YtbjbpgmjijeppaaDoor.Fn
open Go.RowKit Go.Proofs.YtbjbpgmjijeppaaDoorW.PrintWords Go.Proofs.YtbjbpgmjijeppaaDoorW.PrintLast Go.Proofs.YtbjbpgmjijeppaaDoorW.PrintMore
attribute [local go_sem] max2_int min2_int max_two min_two max_three min_three max_four min_four
set_option linter.unusedVariables false
set_option linter.unusedSimpArgs false

/-! ### msg_Message_From: function 43 -/
def msg_Message_From.f (k : Nat) (l0_0 : List (S126)) (a0_1 : ByteArray) : Option (ByteArray × ByteArray × ByteArray × Int) := (head_All.f k l0_0 (⟨#[70, 114, 111, 109]⟩ : ByteArray)).bind fun t491 => (if (t491.length : Int) = 0 then (some ((⟨#[]⟩ : ByteArray), (⟨#[]⟩ : ByteArray), (⟨#[]⟩ : ByteArray), 6)) else (if (t491.length : Int) > 1 then (some ((⟨#[]⟩ : ByteArray), (⟨#[]⟩ : ByteArray), (⟨#[]⟩ : ByteArray), 7)) else (if 0 < (t491.length : Int) then ((mbx_One.f (rdOf ByteArray.empty t491 0)).bind fun bt495 => (some (bt495.1, bt495.2.1, bt495.2.2.1, bt495.2.2.2))) else (none))))
theorem msg_Message_From.mono : ∀ a0 a1 k, LeO (msg_Message_From.f k a0 a1) (msg_Message_From.f (k + 1) a0 a1) := by
 intro a0 a1 k
 unfold msg_Message_From.f
 repeat' first
   | (with_reducible exact head_All.mono _ _ _)
   | (with_reducible exact LeO.refl _)
   | (with_reducible exact LeO.none _)
   | (with_reducible refine LeO.ite ?_ ?_)
   | (with_reducible refine LeO.bind ?_ (fun _ => ?_))
   | exact head_All.mono _ _ _
   | exact LeO.none _
   | refine LeO.ite ?_ ?_
   | refine LeO.bind ?_ (fun _ => ?_)
set_option maxHeartbeats 8000000 in
set_option maxRecDepth 100000 in
theorem msg_Message_From.calls (k : Nat) (A0_0 : Option Addr) (c0_0 : Nat) (l0_0 : List (S126)) (a0_1 : ByteArray) (r1 : ByteArray) (r2 : ByteArray) (r3 : ByteArray) (r4 : Int) (w : World) (hG : Glob w) (hr0_0 : Kd.C k126 w A0_0 l0_0.length l0_0) (hc0_0 : l0_0.length ≤ c0_0) (h : msg_Message_From.f k l0_0 a0_1 = some (r1, r2, r3, r4)) :
  Calls Tryd.prog 43 #[.agg #[.slice A0_0 l0_0.length c0_0, .string a0_1]] w fun e w' => e = .returned (.tuple #[.agg #[.string r1, .string r2, .string r3], .int .i64 r4]) ∧ Below w.heap.size w w' := by
 have hu53 := Tryd.underlying53
 have hu31 := Tryd.underlying31
 have HR0_0 := Aside0.mk hr0_0
 have HC0_0 := Aside0.mk hc0_0
 clear hr0_0 hc0_0
 have HB := Aside0.mk (Below.refl w.heap.size w)
 have H : ((head_All.f k l0_0 (⟨#[70, 114, 111, 109]⟩ : ByteArray)).bind fun t491 => (if (t491.length : Int) = 0 then (some ((⟨#[]⟩ : ByteArray), (⟨#[]⟩ : ByteArray), (⟨#[]⟩ : ByteArray), 6)) else (if (t491.length : Int) > 1 then (some ((⟨#[]⟩ : ByteArray), (⟨#[]⟩ : ByteArray), (⟨#[]⟩ : ByteArray), 7)) else (if 0 < (t491.length : Int) then ((mbx_One.f (rdOf ByteArray.empty t491 0)).bind fun bt495 => (some (bt495.1, bt495.2.1, bt495.2.2.1, bt495.2.2.2))) else (none))))) = some (r1, r2, r3, r4) := h
 clear h
 replace H := Option.bind_eq_some_iff.mp H
 obtain ⟨t491, A20, H⟩ := H
 replace H : (if (t491.length : Int) = 0 then (some ((⟨#[]⟩ : ByteArray), (⟨#[]⟩ : ByteArray), (⟨#[]⟩ : ByteArray), 6)) else (if (t491.length : Int) > 1 then (some ((⟨#[]⟩ : ByteArray), (⟨#[]⟩ : ByteArray), (⟨#[]⟩ : ByteArray), 7)) else (if 0 < (t491.length : Int) then ((mbx_One.f (rdOf ByteArray.empty t491 0)).bind fun bt495 => (some (bt495.1, bt495.2.1, bt495.2.2.1, bt495.2.2.2))) else (none)))) = some (r1, r2, r3, r4) := H
 have A2 := Aside0.mk A20
 clear A20
 by_cases c3 : (t491.length : Int) = 0
 ·rw [if_pos c3] at H
  have c3b0 : ((t491.length : Int) == 0) = true := beq_iff_eq.mpr c3
  have c3b1 : ((t491.length : Int) != 0) = false := bne_eq_false_iff_eq.mpr c3
  clear c3
  simp only [Option.some.injEq, Prod.mk.injEq] at H
  obtain ⟨rfl, rfl, rfl, rfl⟩ := H
  go_enter Tryd.func43, Tryd.ntmps43
  go_wp2_with (first | ((with_reducible refine gate_dst (N := 1) rfl ?_); refine box_event ?hg (N := 1) ?hd (cs := #[.slice A0_0 l0_0.length c0_0, .string a0_1]) (t := 53) ?hr ?_; (case hd => rfl); (case hg => rfl); (case hr => first | (go_simp; done) | (go_simp; rfl)); intro gb489 hg w4 hbox hb; have n0_ := Aside0.mk (below_step bw hb); have n1_ := Aside0.mk (hbox); have n2_ := Aside0.mk ((by rw [hg]; exact (below_size bw) : w.heap.size ≤ gb489)); have n3_ := Aside0.mk ((by rw [hg]; exact (below_size bw) : w.heap.size ≤ gb489)); clear HB; have HB := n0_; have BK489 := n1_; have GW489 := n2_; have GE489 := n3_; clear n0_ n1_ n2_ n3_; clear hb hbox hg) | ((with_reducible refine gate_dst (N := 2) rfl ?_); refine box_event ?hg (N := 2) ?hd (cs := #[.string (⟨#[]⟩ : ByteArray), .string (⟨#[]⟩ : ByteArray), .string (⟨#[]⟩ : ByteArray)]) (t := 31) ?hr ?_; (case hd => rfl); (case hg => rfl); (case hr => first | (go_simp; done) | (go_simp; rfl)); intro gb490 hg w5 hbox hb; have n0_ := Aside0.mk (blk_below (g := gb489) (o := .cells #[.slice A0_0 l0_0.length c0_0, .string a0_1] 53 (0, 0)) bk hb); have n1_ := Aside0.mk (below_step bwS hb); have n2_ := Aside0.mk (hbox); have n3_ := Aside0.mk ((by rw [hg]; exact (below_size bwS) : w.heap.size ≤ gb490)); have n4_ := Aside0.mk ((by rw [hg]; exact (below_size bwS) : w.heap.size ≤ gb490)); have n5_ := Aside0.mk ((by rw [hg]; exact Nat.ne_of_lt (blk_lt (g := gb489) (o := .cells #[.slice A0_0 l0_0.length c0_0, .string a0_1] 53 (0, 0)) bk) : gb489 ≠ gb490)); have n6_ := Aside0.mk ((by rw [hg]; exact Nat.ne_of_gt (blk_lt (g := gb489) (o := .cells #[.slice A0_0 l0_0.length c0_0, .string a0_1] 53 (0, 0)) bk) : gb490 ≠ gb489)); clear BK489; clear HB; have BK489 := n0_; have HB := n1_; have BK490 := n2_; have GW490 := n3_; have GE490 := n4_; have NB489_490 := n5_; have NB490_489 := n6_; clear n0_ n1_ n2_ n3_ n4_ n5_ n6_; clear hb hbox hg; have hnb6 := NB489_490.out; have hnc6 := NB490_489.out; have hcz7_0 : w5.cell? ⟨gb489, 0, none⟩ = some (.slice A0_0 l0_0.length c0_0) := (blk_cell BK489.out 0).trans rfl; have hcz7_1 : w5.cell? ⟨gb489, 1, none⟩ = some (.string a0_1) := (blk_cell BK489.out 1).trans rfl; have hfz7_0 := blk_frozen BK489.out 0; have hfz7_1 := blk_frozen BK489.out 1) | ((with_reducible refine gate_callee (f := 69) rfl ?_); refine goesL_ (some 7) rfl rfl Tryd.func69 (by kernel_rfl) rfl #[.slice A0_0 l0_0.length c0_0, .string (⟨#[70, 114, 111, 109]⟩ : ByteArray)] rfl am ?_; (with_reducible refine (head_All.calls k _ _ l0_0 (⟨#[70, 114, 111, 109]⟩ : ByteArray) t491 _ ?side1 ?side2 A2.out).mono ?_); (case side1 => repeat (first | exact (Kd.C_below HR0_0.out HB.out) | (with_reducible refine Kd.C_alloc ?_ _) | (with_reducible refine Kd.C_drewN ?_ _) | (with_reducible refine Kd.C_drew ?_))); (case side2 => exact HC0_0.out); rintro e w8 ⟨v492, rfl, ho0, hb⟩; refine ⟨_, rfl, ?_⟩; have n0_ := Aside0.mk (Kd.R_lower ho0 (below_size bwS)); have n1_ := Aside0.mk (blk_below (g := gb489) (o := .cells #[.slice A0_0 l0_0.length c0_0, .string a0_1] 53 (0, 0)) bk hb); have n2_ := Aside0.mk (blk_below (g := gb490) (o := .cells #[.string (⟨#[]⟩ : ByteArray), .string (⟨#[]⟩ : ByteArray), .string (⟨#[]⟩ : ByteArray)] 31 (0, 0)) bk hb); have n3_ := Aside0.mk (below_step bwS hb); clear BK489; clear BK490; clear HB; have HO493 := n0_; have BK489 := n1_; have BK490 := n2_; have HB := n3_; clear n0_ n1_ n2_ n3_; (try clear hb); (try clear hb2); (try clear hk); (try clear hi); (try clear ho0); obtain ⟨Ao9, co9, eo9⟩ := Kd.R_slice HO493.out; subst eo9; have hcz10_0 : w8.cell? ⟨gb490, 0, none⟩ = some (.string (⟨#[]⟩ : ByteArray)) := (blk_cell BK490.out 0).trans rfl; have hcz10_1 : w8.cell? ⟨gb490, 1, none⟩ = some (.string (⟨#[]⟩ : ByteArray)) := (blk_cell BK490.out 1).trans rfl; have hcz10_2 : w8.cell? ⟨gb490, 2, none⟩ = some (.string (⟨#[]⟩ : ByteArray)) := (blk_cell BK490.out 2).trans rfl; have hfz10_0 := blk_frozen BK490.out 0; have hfz10_1 := blk_frozen BK490.out 1; have hfz10_2 := blk_frozen BK490.out 2))
  refine bodyPost_ret (results_ct rfl _ _ gb490 31 #[.string (⟨#[]⟩ : ByteArray), .string (⟨#[]⟩ : ByteArray), .string (⟨#[]⟩ : ByteArray)] (0, 0) _ rfl (by (with_reducible repeat (first | refine blk_drewN ?_ _ | refine blk_drew ?_ | refine blk_alloc ?_ _)); refine blk_put (cs := #[.string (⟨#[]⟩ : ByteArray), .string (⟨#[]⟩ : ByteArray), .string (⟨#[]⟩ : ByteArray)]) ?_ 2 _ rfl; (with_reducible repeat (first | refine blk_drewN ?_ _ | refine blk_drew ?_ | refine blk_alloc ?_ _)); refine blk_put (cs := #[.string (⟨#[]⟩ : ByteArray), .string (⟨#[]⟩ : ByteArray), .string (⟨#[]⟩ : ByteArray)]) ?_ 1 _ rfl; (with_reducible repeat (first | refine blk_drewN ?_ _ | refine blk_drew ?_ | refine blk_alloc ?_ _)); refine blk_put (cs := #[.string (⟨#[]⟩ : ByteArray), .string (⟨#[]⟩ : ByteArray), .string (⟨#[]⟩ : ByteArray)]) ?_ 0 _ rfl; (with_reducible repeat (first | refine blk_drewN ?_ _ | refine blk_drew ?_ | refine blk_alloc ?_ _)); exact BK490.out) Tryd.underlying31 rfl (by kernel_rfl)) rfl ?_
  exact ⟨by first | rfl | (simp [errW_none, errW_some] <;> rfl) | (simp [*, errW_none, errW_some] <;> rfl), bwS⟩
 ·rw [if_neg c3] at H
  have c3b0 : ((t491.length : Int) == 0) = false := beq_eq_false_iff_ne.mpr c3
  have c3b1 : ((t491.length : Int) != 0) = true := bne_iff_ne.mpr c3
  have c3b2 : ¬ (t491 = []) := fun h_ => c3 (by rw [h_]; rfl)
  by_cases c11 : (t491.length : Int) > 1
  ·rw [if_pos c11] at H
   have c11b0 : decide (1 < (t491.length : Int)) = true := decide_eq_true c11
   have c11b1 : decide (1 < t491.length) = true := decide_eq_true (by omega)
   clear c11
   simp only [Option.some.injEq, Prod.mk.injEq] at H
   obtain ⟨rfl, rfl, rfl, rfl⟩ := H
   go_enter Tryd.func43, Tryd.ntmps43
   go_wp2_with (first | ((with_reducible refine gate_dst (N := 1) rfl ?_); refine box_event ?hg (N := 1) ?hd (cs := #[.slice A0_0 l0_0.length c0_0, .string a0_1]) (t := 53) ?hr ?_; (case hd => rfl); (case hg => rfl); (case hr => first | (go_simp; done) | (go_simp; rfl)); intro gb489 hg w12 hbox hb; have n0_ := Aside0.mk (below_step bw hb); have n1_ := Aside0.mk (hbox); have n2_ := Aside0.mk ((by rw [hg]; exact (below_size bw) : w.heap.size ≤ gb489)); have n3_ := Aside0.mk ((by rw [hg]; exact (below_size bw) : w.heap.size ≤ gb489)); clear HB; have HB := n0_; have BK489 := n1_; have GW489 := n2_; have GE489 := n3_; clear n0_ n1_ n2_ n3_; clear hb hbox hg) | ((with_reducible refine gate_dst (N := 2) rfl ?_); refine box_event ?hg (N := 2) ?hd (cs := #[.string (⟨#[]⟩ : ByteArray), .string (⟨#[]⟩ : ByteArray), .string (⟨#[]⟩ : ByteArray)]) (t := 31) ?hr ?_; (case hd => rfl); (case hg => rfl); (case hr => first | (go_simp; done) | (go_simp; rfl)); intro gb490 hg w13 hbox hb; have n0_ := Aside0.mk (blk_below (g := gb489) (o := .cells #[.slice A0_0 l0_0.length c0_0, .string a0_1] 53 (0, 0)) bk hb); have n1_ := Aside0.mk (below_step bwS hb); have n2_ := Aside0.mk (hbox); have n3_ := Aside0.mk ((by rw [hg]; exact (below_size bwS) : w.heap.size ≤ gb490)); have n4_ := Aside0.mk ((by rw [hg]; exact (below_size bwS) : w.heap.size ≤ gb490)); have n5_ := Aside0.mk ((by rw [hg]; exact Nat.ne_of_lt (blk_lt (g := gb489) (o := .cells #[.slice A0_0 l0_0.length c0_0, .string a0_1] 53 (0, 0)) bk) : gb489 ≠ gb490)); have n6_ := Aside0.mk ((by rw [hg]; exact Nat.ne_of_gt (blk_lt (g := gb489) (o := .cells #[.slice A0_0 l0_0.length c0_0, .string a0_1] 53 (0, 0)) bk) : gb490 ≠ gb489)); clear BK489; clear HB; have BK489 := n0_; have HB := n1_; have BK490 := n2_; have GW490 := n3_; have GE490 := n4_; have NB489_490 := n5_; have NB490_489 := n6_; clear n0_ n1_ n2_ n3_ n4_ n5_ n6_; clear hb hbox hg; have hnb14 := NB489_490.out; have hnc14 := NB490_489.out; have hcz15_0 : w13.cell? ⟨gb489, 0, none⟩ = some (.slice A0_0 l0_0.length c0_0) := (blk_cell BK489.out 0).trans rfl; have hcz15_1 : w13.cell? ⟨gb489, 1, none⟩ = some (.string a0_1) := (blk_cell BK489.out 1).trans rfl; have hfz15_0 := blk_frozen BK489.out 0; have hfz15_1 := blk_frozen BK489.out 1) | ((with_reducible refine gate_callee (f := 69) rfl ?_); refine goesL_ (some 7) rfl rfl Tryd.func69 (by kernel_rfl) rfl #[.slice A0_0 l0_0.length c0_0, .string (⟨#[70, 114, 111, 109]⟩ : ByteArray)] rfl am ?_; (with_reducible refine (head_All.calls k _ _ l0_0 (⟨#[70, 114, 111, 109]⟩ : ByteArray) t491 _ ?side1 ?side2 A2.out).mono ?_); (case side1 => repeat (first | exact (Kd.C_below HR0_0.out HB.out) | (with_reducible refine Kd.C_alloc ?_ _) | (with_reducible refine Kd.C_drewN ?_ _) | (with_reducible refine Kd.C_drew ?_))); (case side2 => exact HC0_0.out); rintro e w16 ⟨v492, rfl, ho0, hb⟩; refine ⟨_, rfl, ?_⟩; have n0_ := Aside0.mk (Kd.R_lower ho0 (below_size bwS)); have n1_ := Aside0.mk (blk_below (g := gb489) (o := .cells #[.slice A0_0 l0_0.length c0_0, .string a0_1] 53 (0, 0)) bk hb); have n2_ := Aside0.mk (blk_below (g := gb490) (o := .cells #[.string (⟨#[]⟩ : ByteArray), .string (⟨#[]⟩ : ByteArray), .string (⟨#[]⟩ : ByteArray)] 31 (0, 0)) bk hb); have n3_ := Aside0.mk (below_step bwS hb); clear BK489; clear BK490; clear HB; have HO493 := n0_; have BK489 := n1_; have BK490 := n2_; have HB := n3_; clear n0_ n1_ n2_ n3_; (try clear hb); (try clear hb2); (try clear hk); (try clear hi); (try clear ho0); obtain ⟨Ao17, co17, eo17⟩ := Kd.R_slice HO493.out; subst eo17; have hcz18_0 : w16.cell? ⟨gb490, 0, none⟩ = some (.string (⟨#[]⟩ : ByteArray)) := (blk_cell BK490.out 0).trans rfl; have hcz18_1 : w16.cell? ⟨gb490, 1, none⟩ = some (.string (⟨#[]⟩ : ByteArray)) := (blk_cell BK490.out 1).trans rfl; have hcz18_2 : w16.cell? ⟨gb490, 2, none⟩ = some (.string (⟨#[]⟩ : ByteArray)) := (blk_cell BK490.out 2).trans rfl; have hfz18_0 := blk_frozen BK490.out 0; have hfz18_1 := blk_frozen BK490.out 1; have hfz18_2 := blk_frozen BK490.out 2))
   refine bodyPost_ret (results_ct rfl _ _ gb490 31 #[.string (⟨#[]⟩ : ByteArray), .string (⟨#[]⟩ : ByteArray), .string (⟨#[]⟩ : ByteArray)] (0, 0) _ rfl (by (with_reducible repeat (first | refine blk_drewN ?_ _ | refine blk_drew ?_ | refine blk_alloc ?_ _)); refine blk_put (cs := #[.string (⟨#[]⟩ : ByteArray), .string (⟨#[]⟩ : ByteArray), .string (⟨#[]⟩ : ByteArray)]) ?_ 2 _ rfl; (with_reducible repeat (first | refine blk_drewN ?_ _ | refine blk_drew ?_ | refine blk_alloc ?_ _)); refine blk_put (cs := #[.string (⟨#[]⟩ : ByteArray), .string (⟨#[]⟩ : ByteArray), .string (⟨#[]⟩ : ByteArray)]) ?_ 1 _ rfl; (with_reducible repeat (first | refine blk_drewN ?_ _ | refine blk_drew ?_ | refine blk_alloc ?_ _)); refine blk_put (cs := #[.string (⟨#[]⟩ : ByteArray), .string (⟨#[]⟩ : ByteArray), .string (⟨#[]⟩ : ByteArray)]) ?_ 0 _ rfl; (with_reducible repeat (first | refine blk_drewN ?_ _ | refine blk_drew ?_ | refine blk_alloc ?_ _)); exact BK490.out) Tryd.underlying31 rfl (by kernel_rfl)) rfl ?_
   exact ⟨by first | rfl | (simp [errW_none, errW_some] <;> rfl) | (simp [*, errW_none, errW_some] <;> rfl), bwS⟩
  ·rw [if_neg c11] at H
   have c11b0 : decide (1 < (t491.length : Int)) = false := decide_eq_false c11
   have c11b1 : decide (1 < t491.length) = false := decide_eq_false (by omega)
   clear c11
   by_cases c19 : 0 < (t491.length : Int)
   ·rw [if_pos c19] at H
    have c19b0 : decide (0 < (t491.length : Int)) = true := decide_eq_true c19
    have c19b1 : decide (0 < t491.length) = true := decide_eq_true (by omega)
    clear c19
    replace H := Option.bind_eq_some_iff.mp H
    obtain ⟨⟨t495, t496, t497, t498⟩, A200, H⟩ := H
    replace H : (some (t495, t496, t497, t498)) = some (r1, r2, r3, r4) := H
    have A20 := Aside0.mk A200
    clear A200
    simp only [Option.some.injEq, Prod.mk.injEq] at H
    obtain ⟨rfl, rfl, rfl, rfl⟩ := H
    go_enter Tryd.func43, Tryd.ntmps43
    go_wp2_with (first | ((with_reducible refine gate_dst (N := 1) rfl ?_); refine box_event ?hg (N := 1) ?hd (cs := #[.slice A0_0 l0_0.length c0_0, .string a0_1]) (t := 53) ?hr ?_; (case hd => rfl); (case hg => rfl); (case hr => first | (go_simp; done) | (go_simp; rfl)); intro gb489 hg w21 hbox hb; have n0_ := Aside0.mk (below_step bw hb); have n1_ := Aside0.mk (hbox); have n2_ := Aside0.mk ((by rw [hg]; exact (below_size bw) : w.heap.size ≤ gb489)); have n3_ := Aside0.mk ((by rw [hg]; exact (below_size bw) : w.heap.size ≤ gb489)); clear HB; have HB := n0_; have BK489 := n1_; have GW489 := n2_; have GE489 := n3_; clear n0_ n1_ n2_ n3_; clear hb hbox hg) | ((with_reducible refine gate_dst (N := 2) rfl ?_); refine box_event ?hg (N := 2) ?hd (cs := #[.string (⟨#[]⟩ : ByteArray), .string (⟨#[]⟩ : ByteArray), .string (⟨#[]⟩ : ByteArray)]) (t := 31) ?hr ?_; (case hd => rfl); (case hg => rfl); (case hr => first | (go_simp; done) | (go_simp; rfl)); intro gb490 hg w22 hbox hb; have n0_ := Aside0.mk (blk_below (g := gb489) (o := .cells #[.slice A0_0 l0_0.length c0_0, .string a0_1] 53 (0, 0)) bk hb); have n1_ := Aside0.mk (below_step bwS hb); have n2_ := Aside0.mk (hbox); have n3_ := Aside0.mk ((by rw [hg]; exact (below_size bwS) : w.heap.size ≤ gb490)); have n4_ := Aside0.mk ((by rw [hg]; exact (below_size bwS) : w.heap.size ≤ gb490)); have n5_ := Aside0.mk ((by rw [hg]; exact Nat.ne_of_lt (blk_lt (g := gb489) (o := .cells #[.slice A0_0 l0_0.length c0_0, .string a0_1] 53 (0, 0)) bk) : gb489 ≠ gb490)); have n6_ := Aside0.mk ((by rw [hg]; exact Nat.ne_of_gt (blk_lt (g := gb489) (o := .cells #[.slice A0_0 l0_0.length c0_0, .string a0_1] 53 (0, 0)) bk) : gb490 ≠ gb489)); clear BK489; clear HB; have BK489 := n0_; have HB := n1_; have BK490 := n2_; have GW490 := n3_; have GE490 := n4_; have NB489_490 := n5_; have NB490_489 := n6_; clear n0_ n1_ n2_ n3_ n4_ n5_ n6_; clear hb hbox hg; have hnb23 := NB489_490.out; have hnc23 := NB490_489.out; have hcz24_0 : w22.cell? ⟨gb489, 0, none⟩ = some (.slice A0_0 l0_0.length c0_0) := (blk_cell BK489.out 0).trans rfl; have hcz24_1 : w22.cell? ⟨gb489, 1, none⟩ = some (.string a0_1) := (blk_cell BK489.out 1).trans rfl; have hfz24_0 := blk_frozen BK489.out 0; have hfz24_1 := blk_frozen BK489.out 1) | ((with_reducible refine gate_callee (f := 69) rfl ?_); refine goesL_ (some 7) rfl rfl Tryd.func69 (by kernel_rfl) rfl #[.slice A0_0 l0_0.length c0_0, .string (⟨#[70, 114, 111, 109]⟩ : ByteArray)] rfl am ?_; (with_reducible refine (head_All.calls k _ _ l0_0 (⟨#[70, 114, 111, 109]⟩ : ByteArray) t491 _ ?side1 ?side2 A2.out).mono ?_); (case side1 => repeat (first | exact (Kd.C_below HR0_0.out HB.out) | (with_reducible refine Kd.C_alloc ?_ _) | (with_reducible refine Kd.C_drewN ?_ _) | (with_reducible refine Kd.C_drew ?_))); (case side2 => exact HC0_0.out); rintro e w25 ⟨v492, rfl, ho0, hb⟩; refine ⟨_, rfl, ?_⟩; have n0_ := Aside0.mk (Kd.R_lower ho0 (below_size bwS)); have n1_ := Aside0.mk (blk_below (g := gb489) (o := .cells #[.slice A0_0 l0_0.length c0_0, .string a0_1] 53 (0, 0)) bk hb); have n2_ := Aside0.mk (blk_below (g := gb490) (o := .cells #[.string (⟨#[]⟩ : ByteArray), .string (⟨#[]⟩ : ByteArray), .string (⟨#[]⟩ : ByteArray)] 31 (0, 0)) bk hb); have n3_ := Aside0.mk (below_step bwS hb); clear BK489; clear BK490; clear HB; have HO493 := n0_; have BK489 := n1_; have BK490 := n2_; have HB := n3_; clear n0_ n1_ n2_ n3_; (try clear hb); (try clear hb2); (try clear hk); (try clear hi); (try clear ho0); obtain ⟨Ao26, co26, eo26⟩ := Kd.R_slice HO493.out; subst eo26; have p494 : 0 ≤ (0 : Int) := (by omega); have q494 : 0 < (t491.length : Int) := od; obtain ⟨ad494, e494, hx494_0⟩ := Kd.at_string (Kd.R_reads' HO493.out).2.2 0 p494 q494; cases e494; have qi494 : (0 < t491.length) = True := eq_true (by omega); (try rw [show ((0 : Int)).toNat = 0 from rfl] at hx494_0); (try rw [Addr.add_zero'] at hx494_0); replace p494 := eq_true p494; replace q494 := eq_true q494) | ((with_reducible refine gate_callee (f := 19) rfl ?_); refine goesL_ (some 21) rfl rfl Tryd.func19 (by kernel_rfl) rfl #[.string (rdOf ByteArray.empty t491 0)] rfl am ?_; (with_reducible refine (mbx_One.calls (hG := by first | exact hG | exact Glob.below hG (by first | exact HB.out | (repeat (first | (with_reducible first | exact HB.out | apply below_alloc | apply pw_below_drewN | apply below_drew1 | refine below_set ?_ GE489.out | refine below_set ?_ GE490.out) | exact HB.out))) | exact Glob.drawn hG (by repeat (first | exact Drawn0.refl _ | apply Drawn0.step))) (rdOf ByteArray.empty t491 0) t495 t496 t497 t498 _ A20.out).mono ?_); rintro e w27 ⟨rfl, hb⟩; refine ⟨_, rfl, ?_⟩; have n0_ := Aside0.mk (Kd.R_below (by (with_reducible repeat (first | apply Kd.R_alloc | apply Kd.R_drewN | apply Kd.R_drew)); exact HO493.out) hb); have n1_ := Aside0.mk (blk_below (g := gb489) (o := .cells #[.slice A0_0 l0_0.length c0_0, .string a0_1] 53 (0, 0)) bk hb); have n2_ := Aside0.mk (blk_below (g := gb490) (o := .cells #[.string (⟨#[]⟩ : ByteArray), .string (⟨#[]⟩ : ByteArray), .string (⟨#[]⟩ : ByteArray)] 31 (0, 0)) bk hb); have n3_ := Aside0.mk (below_step bwS hb); clear HO493; clear BK489; clear BK490; clear HB; have HO493 := n0_; have BK489 := n1_; have BK490 := n2_; have HB := n3_; clear n0_ n1_ n2_ n3_; (try clear hb); (try clear hb2); (try clear hk); (try clear hi); have hcz28_0 : w27.cell? ⟨gb490, 0, none⟩ = some (.string (⟨#[]⟩ : ByteArray)) := (blk_cell BK490.out 0).trans rfl; have hcz28_1 : w27.cell? ⟨gb490, 1, none⟩ = some (.string (⟨#[]⟩ : ByteArray)) := (blk_cell BK490.out 1).trans rfl; have hcz28_2 : w27.cell? ⟨gb490, 2, none⟩ = some (.string (⟨#[]⟩ : ByteArray)) := (blk_cell BK490.out 2).trans rfl; have hfz28_0 := blk_frozen BK490.out 0; have hfz28_1 := blk_frozen BK490.out 1; have hfz28_2 := blk_frozen BK490.out 2))
    refine bodyPost_ret (results_ct rfl _ _ gb490 31 #[.string t495, .string t496, .string t497] (0, 0) _ rfl (by (with_reducible repeat (first | refine blk_drewN ?_ _ | refine blk_drew ?_ | refine blk_alloc ?_ _)); refine blk_put (cs := #[.string t495, .string t496, .string (⟨#[]⟩ : ByteArray)]) ?_ 2 _ rfl; (with_reducible repeat (first | refine blk_drewN ?_ _ | refine blk_drew ?_ | refine blk_alloc ?_ _)); refine blk_put (cs := #[.string t495, .string (⟨#[]⟩ : ByteArray), .string (⟨#[]⟩ : ByteArray)]) ?_ 1 _ rfl; (with_reducible repeat (first | refine blk_drewN ?_ _ | refine blk_drew ?_ | refine blk_alloc ?_ _)); refine blk_put (cs := #[.string (⟨#[]⟩ : ByteArray), .string (⟨#[]⟩ : ByteArray), .string (⟨#[]⟩ : ByteArray)]) ?_ 0 _ rfl; (with_reducible repeat (first | refine blk_drewN ?_ _ | refine blk_drew ?_ | refine blk_alloc ?_ _)); exact BK490.out) Tryd.underlying31 rfl (by kernel_rfl)) rfl ?_
    exact ⟨by first | rfl | (simp [errW_none, errW_some] <;> rfl) | (simp [*, errW_none, errW_some] <;> rfl), bwS⟩
   ·rw [if_neg c19] at H
    exact absurd H (by simp)

end Go.Proofs.YtbjbpgmjijeppaaDoor.Fn
set_option linter.unusedVariables false
namespace Go.Proofs.YtbjbpgmjijeppaaDoor.Fn
open Go.RowKit Go.Proofs.YtbjbpgmjijeppaaDoorW.PrintWords

def strings_Cut.f (a0 a1 : ByteArray) : Option (ByteArray × ByteArray × Bool) :=
  if a0.size < 4294967281 then some (Pl.str (Lib.cut a0.data.toList a1.data.toList).1, Pl.str (Lib.cut a0.data.toList a1.data.toList).2.1, (Lib.cut a0.data.toList a1.data.toList).2.2) else none
theorem strings_Cut.calls (a0 a1 r1 r2 : ByteArray) (r3 : Bool) (w : World) (hG : Glob w) (h : strings_Cut.f a0 a1 = some (r1, r2, r3)) :
    Calls Tryd.prog 45 #[.string a0, .string a1] w fun e w' => e = .returned (.tuple #[.string r1, .string r2, .bool r3]) ∧ Below w.heap.size w w' := by
  unfold strings_Cut.f at h
  by_cases hs : a0.size < 4294967281
  · rw [if_pos hs] at h
    have HR := Option.some.inj h
    injection HR with e1 HR
    injection HR with e2 e3
    obtain ⟨m, hm⟩ := hG.max
    refine (Tryd.strings_Cut a0 a1 m w hs hm).mono ?_
    rintro e w' ⟨rfl, n, rfl⟩
    refine ⟨?_, pw_below_drewN (Below.refl _ w) n⟩
    rw [← e1, ← e2, ← e3]
    rfl
  · rw [if_neg hs] at h
    exact absurd h (by simp)
end Go.Proofs.YtbjbpgmjijeppaaDoor.Fn
namespace Go.Proofs.YtbjbpgmjijeppaaDoor.Fn
open Go.RowKit Go.Proofs.YtbjbpgmjijeppaaDoorW.PrintWords Go.Proofs.YtbjbpgmjijeppaaDoorW.PrintLast Go.Proofs.YtbjbpgmjijeppaaDoorW.PrintMore
attribute [local go_sem] max2_int min2_int max_two min_two max_three min_three max_four min_four
set_option linter.unusedVariables false
set_option linter.unusedSimpArgs false

/-! ### msg_Message_Lines: function 23 -/
def msg_Message_Lines.l0 : Nat → List ByteArray → ByteArray → Option (List ByteArray)
 | 0, _, _ => none
 | k + 1, x3, x4 => if x4.toList = ([] : List UInt8) then (some x3) else ((strings_Cut.f x4 (⟨#[13, 10]⟩ : ByteArray)).bind fun bt444 => (if x3.length < 8796093022208 then (msg_Message_Lines.l0 k (x3 ++ [bt444.1]) bt444.2.1) else (none)))
def msg_Message_Lines.f (k : Nat) (l0_0 : List (S126)) (a0_1 : ByteArray) : Option (List ByteArray) := msg_Message_Lines.l0 k ([] : List ByteArray) a0_1
theorem msg_Message_Lines.mono_l : ∀ k, (∀ y0 y1, LeO (msg_Message_Lines.l0 k y0 y1) (msg_Message_Lines.l0 (k + 1) y0 y1))
 | 0 => fun _ _ r h => by simp [msg_Message_Lines.l0] at h
 | k + 1 => by
  have ih0 := msg_Message_Lines.mono_l k
  ·intro y0 y1
   unfold msg_Message_Lines.l0
   repeat' first
   | (with_reducible exact ih0 _ _)
   | (with_reducible exact LeO.refl _)
   | (with_reducible exact LeO.none _)
   | (with_reducible refine LeO.ite ?_ ?_)
   | (with_reducible refine LeO.bind ?_ (fun _ => ?_))
   | exact ih0 _ _
   | exact LeO.none _
   | refine LeO.ite ?_ ?_
   | refine LeO.bind ?_ (fun _ => ?_)
theorem msg_Message_Lines.mono : ∀ a0 a1 k, LeO (msg_Message_Lines.f k a0 a1) (msg_Message_Lines.f (k + 1) a0 a1) := by
 intro a0 a1 k
 have ih0 := msg_Message_Lines.mono_l k
 unfold msg_Message_Lines.f
 repeat' first
   | (with_reducible exact ih0 _ _)
   | (with_reducible exact LeO.refl _)
   | (with_reducible exact LeO.none _)
   | (with_reducible refine LeO.ite ?_ ?_)
   | (with_reducible refine LeO.bind ?_ (fun _ => ?_))
   | exact ih0 _ _
   | exact LeO.none _
   | refine LeO.ite ?_ ?_
   | refine LeO.bind ?_ (fun _ => ?_)
set_option maxHeartbeats 8000000 in
set_option maxRecDepth 100000 in
theorem msg_Message_Lines.calls (k : Nat) (A0_0 : Option Addr) (c0_0 : Nat) (l0_0 : List (S126)) (a0_1 : ByteArray) (r : List ByteArray) (w : World) (hG : Glob w) (hr0_0 : Kd.C k126 w A0_0 l0_0.length l0_0) (hc0_0 : l0_0.length ≤ c0_0) (h : msg_Message_Lines.f k l0_0 a0_1 = some r) :
  Calls Tryd.prog 23 #[.agg #[.slice A0_0 l0_0.length c0_0, .string a0_1]] w fun e w' => ∃ v0_ : Value, e = .returned (v0_) ∧ Kd.R Kd.string 9 w' w.heap.size (fun _ => True) v0_ r ∧ Below w.heap.size w w' := by
 have hu53 := Tryd.underlying53
 have HR0_0 := Aside0.mk hr0_0
 have HC0_0 := Aside0.mk hc0_0
 clear hr0_0 hc0_0
 have HB := Aside0.mk (Below.refl w.heap.size w)
 have H : (msg_Message_Lines.l0 k ([] : List ByteArray) a0_1) = some r := h
 clear h
 have H' := Aside0.mk H
 clear H
 go_enter Tryd.func23, Tryd.ntmps23
 go_wp2_with (first | ((with_reducible refine gate_dst (N := 1) rfl ?_); refine box_event ?hg (N := 1) ?hd (cs := #[.slice A0_0 l0_0.length c0_0, .string a0_1]) (t := 53) ?hr ?_; (case hd => rfl); (case hg => rfl); (case hr => first | (go_simp; done) | (go_simp; rfl)); intro gb443 hg w2 hbox hb; have n0_ := Aside0.mk (below_step bw hb); have n1_ := Aside0.mk (hbox); have n2_ := Aside0.mk ((by rw [hg]; exact (below_size bw) : w.heap.size ≤ gb443)); have n3_ := Aside0.mk ((by rw [hg]; exact (below_size bw) : w.heap.size ≤ gb443)); clear HB; have HB := n0_; have BK443 := n1_; have GW443 := n2_; have GE443 := n3_; clear n0_ n1_ n2_ n3_; clear hb hbox hg; have hcz3_0 : w2.cell? ⟨gb443, 0, none⟩ = some (.slice A0_0 l0_0.length c0_0) := (blk_cell BK443.out 0).trans rfl; have hcz3_1 : w2.cell? ⟨gb443, 1, none⟩ = some (.string a0_1) := (blk_cell BK443.out 1).trans rfl; have hfz3_0 := blk_frozen BK443.out 0; have hfz3_1 := blk_frozen BK443.out 1))
 go_loopg [3, 4] k (fun kq v3 v4 w' => ∃ (x3_1 : List ByteArray) (x4_1 : ByteArray), v4 = .string x4_1 ∧ Aside0 (msg_Message_Lines.l0 kq x3_1 x4_1 = some r) ∧ Aside0 (kq ≤ k) ∧ Aside0 (Kd.R Kd.string 9 w' w.heap.size (fun _ => True) v3 x3_1) ∧ Aside0 (w'.heap[gb443]? = some (.cells #[(.slice A0_0 l0_0.length c0_0), .string a0_1] 53 (0, 0))) ∧ Aside0 (Below w.heap.size w w'))
 case atStart => exact ⟨(([] : List ByteArray)), (a0_1), cl, H', ⟨Nat.le_refl _⟩, ⟨by first | exact Kd.R_nil _ _ _ _ _ | exact Kd.N_nil _ _ _ _ _ | exact Kd.V_nil _ _ _ _ _ | exact Kd.Q_nil _ _ _ _ _ | exact Kd.S_nil _ _ _ _ _⟩, ⟨bk⟩, ⟨bwS⟩⟩
 case round =>
  clear H'
  try clear c2
  try clear p2
  try clear hcz3_0
  try clear hcz3_1
  try clear hfz3_0
  try clear hfz3_1
  obtain ⟨x3_1, x4_1, rfl, HA, HK1, HO_3, BK443, HB⟩ := hrel
  cases gk with
  | zero => exact absurd HA.out (by simp [msg_Message_Lines.l0])
  | succ k1 =>
   have H := HA.out
   clear HA
   simp only [msg_Message_Lines.l0] at H
   by_cases c4 : x4_1.toList = ([] : List UInt8)
   ·rw [if_pos c4] at H
    have c4b0 : (x4_1.toList == ([] : List UInt8)) = true := beq_iff_eq.mpr c4
    have c4b1 : (x4_1.toList != ([] : List UInt8)) = false := bne_eq_false_iff_eq.mpr c4
    clear c4
    obtain rfl := Option.some.inj H
    go_wp2
    go_ret
    exact ⟨_, by first | rfl | (simp [errW_none, errW_some] <;> rfl) | (simp [*, errW_none, errW_some] <;> rfl), by (with_reducible repeat (first | apply Kd.R_alloc | apply Kd.R_drewN | apply Kd.R_drew)); exact HO_3.out, bwS⟩
   ·rw [if_neg c4] at H
    have c4b0 : (x4_1.toList == ([] : List UInt8)) = false := beq_eq_false_iff_ne.mpr c4
    have c4b1 : (x4_1.toList != ([] : List UInt8)) = true := bne_iff_ne.mpr c4
    replace H := Option.bind_eq_some_iff.mp H
    obtain ⟨⟨t444, t445, t446⟩, A50, H⟩ := H
    replace H : (if x3_1.length < 8796093022208 then (msg_Message_Lines.l0 k1 (x3_1 ++ [t444]) t445) else (none)) = some r := H
    have A5 := Aside0.mk A50
    clear A50
    by_cases c6 : x3_1.length < 8796093022208
    ·rw [if_pos c6] at H
     have LMc6 := Aside0.mk c6
     clear c6
     obtain ⟨y447, hy447⟩ : ∃ y_ : List ByteArray, y_ = (x3_1 ++ [t444]) := ⟨_, rfl⟩
     replace H : (msg_Message_Lines.l0 k1 y447 t445) = some r := by first | (rw [hy447]; with_reducible exact H) | (have H2_ := (Option.bind_some _ _).symm.trans H; rw [hy447]; with_reducible exact H2_) | (have H2_ := (Option.bind_some _ _).symm.trans H; with_reducible exact H2_) | with_reducible exact H | (rw [hy447]; exact H) | exact H
     have Ny447 := Aside0.mk hy447
     clear hy447
     have H' := Aside0.mk H
     clear H
     go_wp2_with (first | ((with_reducible refine gate_callee (f := 45) rfl ?_); refine goesL_ (some 14) rfl rfl Tryd.func45 (by kernel_rfl) rfl #[.string x4_1, .string (⟨#[13, 10]⟩ : ByteArray)] rfl am ?_; (with_reducible refine (strings_Cut.calls (hG := by first | exact hG | exact Glob.below hG (by first | exact HB.out | (repeat (first | (with_reducible first | exact HB.out | apply below_alloc | apply pw_below_drewN | apply below_drew1 | refine below_set ?_ GE443.out) | exact HB.out))) | exact Glob.drawn hG (by repeat (first | exact Drawn0.refl _ | apply Drawn0.step))) x4_1 (⟨#[13, 10]⟩ : ByteArray) t444 t445 t446 _ A5.out).mono ?_); rintro e w7 ⟨rfl, hb⟩; refine ⟨_, rfl, ?_⟩; have n0_ := Aside0.mk (Kd.R_below (by (with_reducible repeat (first | apply Kd.R_alloc | apply Kd.R_drewN | apply Kd.R_drew)); exact HO_3.out) hb); have n1_ := Aside0.mk (blk_below (g := gb443) (o := .cells #[.slice A0_0 l0_0.length c0_0, .string a0_1] 53 (0, 0)) bk hb); have n2_ := Aside0.mk (below_step bwS hb); clear HO_3; clear BK443; clear HB; have HO_3 := n0_; have BK443 := n1_; have HB := n2_; clear n0_ n1_ n2_; (try clear hb); (try clear hb2); (try clear hk); (try clear hi)) | ((with_reducible refine gate_builtin (b := .append) (xs := #[.tmp 18, .tmp 20]) rfl ?_); at_builtin; refine Kd.R_append Kd.string (w0 := w) w.heap.size rfl (.tmp 18) (.tmp 20) 50 9 (.string ⟨#[]⟩) 16 rfl Tryd.underlying50 info9 rfl (by decide) (by omega) u3 x3_1 t444 [.string t444] (fun _ => True) (fun _ => False) rfl rfl ?aP (fun _ hk => hk.elim) ?aF ?aO ?aB ?aS ?aL ?_; (case aP => exact rfl); (case aB => exact bwS); (case aF => exact (fun _ _ => trivial)); (case aO => exact (by (with_reducible repeat (first | apply Kd.R_alloc | apply Kd.R_drewN | apply Kd.R_drew)); exact HO_3.out)); (case aS => exact (below_size bwS)); (case aL => have := LMc6.out; omega); intro v448 w8 ho hb hg hat; rw [← Ny447.out] at ho; have n0_ := Aside0.mk (blk_grown (g := gb443) (o := .cells #[.slice A0_0 l0_0.length c0_0, .string a0_1] 53 (0, 0)) bk hg (Kd.R_ne HO_3.out BK443.out (by decide))); have n1_ := Aside0.mk (hb); have n2_ := Aside0.mk (ho); clear BK443; clear HB; clear HO_3; have BK443 := n0_; have HB := n1_; have HO449 := n2_; clear n0_ n1_ n2_; clear ho hb hg hat))
     go_roundg k1
     case measure => have := HK1.out; omega
     case rel => exact ⟨(y447), (t445), cl, H', ⟨by have := HK1.out; omega⟩, ⟨by (with_reducible repeat (first | apply Kd.R_alloc | apply Kd.R_drewN | apply Kd.R_drew)); exact HO449.out⟩, ⟨bk⟩, ⟨bwS⟩⟩
    ·rw [if_neg c6] at H
     exact absurd H (by simp)

end Go.Proofs.YtbjbpgmjijeppaaDoor.Fn
set_option linter.unusedVariables false
namespace Go.Proofs.YtbjbpgmjijeppaaDoor.Fn
open Go.RowKit Go.Proofs.YtbjbpgmjijeppaaDoorW.PrintWords

/-! strings.IndexRune of a blank text at a sign beyond ASCII: -1. -/
theorem blank_decode0 : Utf8.decode ⟨#[32, 9]⟩ 0 = (32, 1) := by decide
theorem blank_decode1 : Utf8.decode ⟨#[32, 9]⟩ 1 = (9, 1) := by decide
theorem enc_two (r : Nat) (h1 : 128 ≤ r) (h2 : r < 2048) : Utf8.encode (r : Int) = ⟨#[UInt8.ofNat (192 + r / 64), UInt8.ofNat (128 + r % 64)]⟩ := by
  have hv : Utf8.valid (r : Int) = true := by unfold Utf8.valid; simp; omega
  unfold Utf8.encode
  simp only [hv, if_true, Int.toNat_natCast]
  rw [if_neg (by omega), if_pos (by omega)]
theorem enc_more (r : Nat) (h1 : 2048 ≤ r) : 3 ≤ (Utf8.encode (r : Int)).size ∧ (Utf8.encode (r : Int)).size ≤ 4 := by
  unfold Utf8.encode
  by_cases hv : Utf8.valid (r : Int) = true
  · simp only [hv, if_true, Int.toNat_natCast]
    rw [if_neg (by omega), if_neg (by omega)]
    split
    · exact ⟨by show 3 ≤ 3; omega, by show 3 ≤ 4; omega⟩
    · exact ⟨by show 3 ≤ 4; omega, by show 4 ≤ 4; omega⟩
  · simp only [hv]
    exact ⟨by show 3 ≤ 3; omega, by show 3 ≤ 4; omega⟩

set_option maxHeartbeats 4000000 in
set_option maxRecDepth 100000 in
theorem indexRune_bad (w : World) :
    Calls Tryd.prog 126 #[.string ⟨#[32, 9]⟩, .int .i32 65533] w fun e w' => e = .returned (.int .i64 (-1)) ∧ Below w.heap.size w w' := by
  go_enter Tryd.func126, Tryd.ntmps126
  go_wp2
  go_loopw [] (fun wr => ∃ (pos : Nat), pos ≤ 2 ∧ wr.heap[w.heap.size]? = some (.stringIter ⟨#[32, 9]⟩ pos) ∧ Below w.heap.size w wr) (fun wr => 2 - wr.iterPos w.heap.size)
  case atStart =>
    refine ⟨0, by omega, ?_, (Below.refl _ w).alloc (by simp) _⟩
    have := World.iter_heap w ⟨#[32, 9]⟩ 0
    simpa using this
  case round =>
    obtain ⟨pos, hp2, hit, hbw⟩ := hrel
    have hsz : w.heap.size < wr.heap.size := (Array.getElem?_eq_some_iff.1 hit).1
    rcases (show pos = 0 ∨ pos = 1 ∨ pos = 2 by omega) with rfl | rfl | rfl
    · have hnx : ∀ ty, (Instr.next (.pointer (some ⟨w.heap.size, 0, none⟩)) true ty).run Tryd.prog wr = _ := fun ty => Lib.run_next_any_at wr w.heap.size ⟨#[32, 9]⟩ 0 ty hit (by decide)
      rw [blank_decode0] at hnx
      have hit2 := Lib.iterAt_heap wr w.heap.size ⟨#[32, 9]⟩ 0 (0 + 1) hit
      have hbw2 := Lib.below_iterAt hbw (k := w.heap.size) (by omega) ⟨#[32, 9]⟩ (0 + 1)
      go_wp2
      go_roundw
      case rel => exact ⟨1, by omega, hit2, hbw2⟩
      case measure => simp only [World.iterPos, hit2, hit]; omega
    · have hnx : ∀ ty, (Instr.next (.pointer (some ⟨w.heap.size, 0, none⟩)) true ty).run Tryd.prog wr = _ := fun ty => Lib.run_next_any_at wr w.heap.size ⟨#[32, 9]⟩ 1 ty hit (by decide)
      rw [blank_decode1] at hnx
      have hit2 := Lib.iterAt_heap wr w.heap.size ⟨#[32, 9]⟩ 1 (1 + 1) hit
      have hbw2 := Lib.below_iterAt hbw (k := w.heap.size) (by omega) ⟨#[32, 9]⟩ (1 + 1)
      go_wp2
      go_roundw
      case rel => exact ⟨2, by omega, hit2, hbw2⟩
      case measure => simp only [World.iterPos, hit2, hit]; omega
    · have hnx : ∀ ty, (Instr.next (.pointer (some ⟨w.heap.size, 0, none⟩)) true ty).run Tryd.prog wr = _ := fun ty => Lib.run_next_end_at wr w.heap.size ⟨#[32, 9]⟩ 2 ty hit (by decide)
      go_wp2
      go_ret
      exact ⟨rfl, hbw⟩

set_option maxHeartbeats 4000000 in
set_option maxRecDepth 1000000 in
theorem indexRune_more (r : Nat) (w : World) (h1 : 2048 ≤ r) (h2 : r ≤ 1114111) (h3 : r < 55296 ∨ 57344 ≤ r) (h4 : r ≠ 65533) :
    Calls Tryd.prog 126 #[.string ⟨#[32, 9]⟩, .int .i32 r] w fun e w' => e = .returned (.int .i64 (-1)) ∧ Below w.heap.size w w' := by
  obtain ⟨g1, g2⟩ := enc_more r h1
  have e1 : ((0 : Int) ≤ (r : Int)) = True := eq_true (by omega)
  have e2 : ((r : Int) < 128) = False := eq_false (by omega)
  have e3 : ((r : Int) == 65533) = false := beq_eq_false_iff_ne.2 (by omega)
  have e4 : Lib.validRune (r : Int) = true := by unfold Lib.validRune; simp; omega
  have e5 : decide ((r : Int) < 128) = false := decide_eq_false (by omega)
  have e6 : decide ((0 : Int) ≤ (r : Int)) = true := decide_eq_true (by omega)
  go_enter Tryd.func126, Tryd.ntmps126
  have e7 : (Utf8.encode (r : Int)).size ≤ maxLen := by unfold maxLen; omega
  have e8 : wrap64 (((Utf8.encode (r : Int)).size : Int) - 1) = ((Utf8.encode (r : Int)).size : Int) - 1 := by unfold wrap64; omega
  go_wp2_with (go_at_call 129; refine (Tryd.utf8_ValidRune _ _).mono ?_; rintro e W1 ⟨rfl, rfl⟩; rw [e4])
  go_step3
  go_wp2
  go_loopw [9] (fun v9 wr => v9 = .int .i64 (((Utf8.encode (r : Int)).size : Int) - 1) ∧ wr = W1) (fun v9 wr => 0)
  case atStart => exact ⟨rfl, rfl⟩
  case round =>
    obtain ⟨rfl, rfl⟩ := hrel
    have e9 : decide ((((Utf8.encode (r : Int)).size : Int) - 1) < 2) = false := decide_eq_false (by omega)
    go_wp2
    (try rw [Exit.noGoto_exit])
    go_wp2
    (try rw [Exit.noGoto_ret])
    go_ret
    exact ⟨rfl, Below.refl _ _⟩

set_option maxHeartbeats 4000000 in
set_option maxRecDepth 1000000 in
theorem indexRune_two (r : Nat) (w : World) (h1 : 128 ≤ r) (h2 : r < 2048) :
    Calls Tryd.prog 126 #[.string ⟨#[32, 9]⟩, .int .i32 r] w fun e w' => e = .returned (.int .i64 (-1)) ∧ Below w.heap.size w w' := by
  have HE := hid (enc_two r h1 h2)
  obtain ⟨b, hb⟩ : ∃ b : UInt8, UInt8.ofNat (128 + r % 64) = b := ⟨_, rfl⟩
  obtain ⟨c, hc⟩ : ∃ c : UInt8, UInt8.ofNat (192 + r / 64) = c := ⟨_, rfl⟩
  have hbn : b.toNat = 128 + r % 64 := by rw [← hb]; simp; omega
  rw [hb, hc] at HE
  have e3 : ((r : Int) == 65533) = false := beq_eq_false_iff_ne.2 (by omega)
  have e4 : Lib.validRune (r : Int) = true := by unfold Lib.validRune; simp; omega
  have e5 : decide ((r : Int) < 128) = false := decide_eq_false (by omega)
  have e6 : decide ((0 : Int) ≤ (r : Int)) = true := decide_eq_true (by omega)
  have e10 : (9 != (b.toNat : Int)) = true := by rw [bne_iff_ne]; omega
  have e8 : wrap64 (((⟨#[c, b]⟩ : ByteArray).size : Int) - 1) = 1 := by show wrap64 (((2 : Nat) : Int) - 1) = 1; unfold wrap64; omega
  have e11 : Lib.indexByte [] (b.toNat : Int).toNat.toUInt8 = -1 := rfl
  go_enter Tryd.func126, Tryd.ntmps126
  go_wp2_with (go_at_call 129; refine (Tryd.utf8_ValidRune _ _).mono ?_; rintro e W1 ⟨rfl, rfl⟩; rw [e4])
  go_step3
  go_wp2
  rw [HE.out]
  simp only [e8]
  go_loopw [9] (fun v9 wr => v9 = .int .i64 1 ∧ wr = W1) (fun v9 wr => 0)
  case atStart => exact ⟨rfl, rfl⟩
  case round =>
    obtain ⟨rfl, rfl⟩ := hrel
    go_wp2
    go_step3
    go_wp2
    go_quiet (fail)
    simp only [show ((((⟨#[32, 9]⟩ : ByteArray)[1]'(by decide)).toNat : Int) != (((⟨#[c, b]⟩ : ByteArray)[1]'(by show 1 < 2; decide)).toNat : Int)) = true from e10]
    go_wp2
    have hB3 := pw_below_drewN (Below.refl wr.heap.size wr) nq
    generalize wr.drewN nq = W3 at hB3 ⊢
    have e12 : IntKind.i64.wrap 2 = 2 := by decide
    have e13 : ((2 : Int) ≤ ((⟨#[32, 9]⟩ : ByteArray).size : Int)) = True := eq_true (by decide)
    go_quiet (first | (go_at_call 77; refine Calls.quiet_of_same (Tryd.strings_IndexByte _ _ _)))
    simp only [show ∀ x, Lib.indexByte ByteArray.empty.data.toList x = -1 from fun _ => rfl]
    go_wp2
    rw [Exit.noGoto_ret]
    show Exit.noGoto _ .ret _ _
    repeat (first | rw [Exit.noGoto_ret] | (simp only [Exit.then, Exit.inBlock]))
    go_ret
    exact ⟨rfl, pw_below_drewN hB3 _⟩

theorem indexRune_high (r : Nat) (w : World) (h1 : 128 ≤ r) (ok : r < 55296 ∨ (57344 ≤ r ∧ r ≤ 1114111)) :
    Calls Tryd.prog 126 #[.string ⟨#[32, 9]⟩, .int .i32 r] w fun e w' => e = .returned (.int .i64 (-1)) ∧ Below w.heap.size w w' := by
  by_cases h2 : r < 2048
  · exact indexRune_two r w h1 h2
  · by_cases h3 : r = 65533
    · subst h3
      exact indexRune_bad w
    · exact indexRune_more r w (by omega) (by omega) (by omega) h3
end Go.Proofs.YtbjbpgmjijeppaaDoor.Fn
set_option linter.unusedVariables false
namespace Go.Proofs.YtbjbpgmjijeppaaDoor.Fn
open Go.RowKit Go.Proofs.YtbjbpgmjijeppaaDoorW.PrintWords

def strings_IndexAny.f (a0 a1 : ByteArray) : Option Int :=
  if a1 = ⟨#[32, 9]⟩ then (if a0.size < 4294967281 then some (Lib.indexAny a0.data.toList [32, 9]) else none) else none
theorem at_list (s : ByteArray) (j : Nat) (h : j < s.size) : s.data.toList[j]? = some (s.get! j) := by
  have h' : j < s.data.size := h
  rw [Array.getElem?_toList, Array.getElem?_eq_getElem h']
  congr 1
  show s.data[j] = s.data[j]!
  rw [getElem!_pos s.data j h']
theorem noAny_run {s : ByteArray} {i : Nat} : ∀ n, i + n ≤ s.size → (∀ j, j < n → 128 ≤ (s.get! (i + j)).toNat) → Lib.NoAny s.data.toList [32, 9] i → Lib.NoAny s.data.toList [32, 9] (i + n)
  | 0, _, _, h => h
  | n + 1, h0, hb, h => by
    have ih := noAny_run n (by omega) (fun j hj => hb j (by omega)) h
    have hx := at_list s (i + n) (by omega)
    refine ih.succ hx ?_
    have := hb n (by omega)
    generalize s.get! (i + n) = c at this
    have h1 : c ≠ 32 := by rintro rfl; revert this; decide
    have h2 : c ≠ 9 := by rintro rfl; revert this; decide
    simp [h1, h2]
theorem high_run (s : ByteArray) (i : Nat) (h : i < s.size) (h1 : 128 ≤ (s.get! i).toNat) : ∀ j, j < (Utf8.decode s i).2 → 128 ≤ (s.get! (i + j)).toNat := by
  intro j hj
  by_cases h0 : j = 0
  · subst h0; exact h1
  · rw [Lib.decode_at] at hj
    have g0 : (s.get! i).toNat < 256 := (s.get! i).toNat_lt
    unfold Lib.decodeN at hj
    have hj' : j = 1 ∨ j = 2 ∨ j = 3 := by
      repeat' split at hj
      all_goals (simp only [] at hj; omega)
    rcases hj' with rfl | rfl | rfl
    all_goals
      repeat' split at hj
      all_goals (simp only [] at hj; omega)
theorem sign_ok (s : ByteArray) (i : Nat) : (Utf8.decode s i).1 < 55296 ∨ (57344 ≤ (Utf8.decode s i).1 ∧ (Utf8.decode s i).1 ≤ 1114111) := by
  rw [Lib.decode_at]
  have g0 : (s.get! i).toNat < 256 := (s.get! i).toNat_lt
  unfold Lib.decodeN
  repeat' split
  all_goals (simp only []; omega)
theorem sign_beyond (s : ByteArray) (i : Nat) (h : 128 ≤ (s.get! i).toNat) : 128 ≤ (Utf8.decode s i).1 := by
  rw [Lib.decode_at]
  have g0 : (s.get! i).toNat < 256 := (s.get! i).toNat_lt
  unfold Lib.decodeN
  repeat' split
  all_goals (simp only []; omega)
set_option maxHeartbeats 4000000 in
set_option maxRecDepth 1000000 in
theorem indexAny_short (s : ByteArray) (w : World) (h8 : s.size ≤ 8) :
    Calls Tryd.prog 121 #[.string s, .string ⟨#[32, 9]⟩] w fun e w' => e = .returned (.int .i64 (Lib.indexAny s.data.toList [32, 9])) ∧ Below w.heap.size w w' := by
  have h8z : decide ((8 : Int) < (s.size : Int)) = false := decide_eq_false (by omega)
  go_enter Tryd.func121, Tryd.ntmps121
  go_wp2_with (go_at_call 127; refine (Tryd.strings_shouldUseASCIISet _ _).mono ?_; rintro e w' ⟨rfl, hw⟩; rw [hw, h8z])
  go_loopw [] (fun wr => ∃ (pos : Nat), pos ≤ s.size ∧ wr.heap[w.heap.size]? = some (.stringIter s pos) ∧ Below w.heap.size w wr ∧ Hid (Lib.NoAny s.data.toList [32, 9] pos)) (fun wr => s.size - wr.iterPos w.heap.size)
  case atStart =>
    refine ⟨0, Nat.zero_le _, ?_, (Below.refl _ w).alloc (by simp) _, hid (Lib.NoAny.zero _ _)⟩
    have := World.iter_heap w s 0
    simpa using this
  case round =>
    obtain ⟨pos, hps, hit, hbw, hno⟩ := hrel
    have hsz : w.heap.size < wr.heap.size := (Array.getElem?_eq_some_iff.1 hit).1
    by_cases hp : pos < s.size
    · have hwd : 1 ≤ (Utf8.decode s pos).2 := Pl.width_pos s pos hp
      have hwe : pos + (Utf8.decode s pos).2 ≤ s.size := Pl.width_end s pos hp
      have hnx : ∀ ty, (Instr.next (.pointer (some ⟨w.heap.size, 0, none⟩)) true ty).run Tryd.prog wr = _ := fun ty => Lib.run_next_any_at wr w.heap.size s pos ty hit hp
      have hit2 := Lib.iterAt_heap wr w.heap.size s pos (pos + (Utf8.decode s pos).2) hit
      have hbw2 := Lib.below_iterAt hbw (k := w.heap.size) (by omega) s (pos + (Utf8.decode s pos).2)
      by_cases h1 : 128 ≤ (s.get! pos).toNat
      · have HI := hid (indexRune_high (Utf8.decode s pos).1 (wr.iterAt w.heap.size s (pos + (Utf8.decode s pos).2)) (sign_beyond s pos h1) (sign_ok s pos))
        have hno2 := hid (noAny_run _ hwe (high_run s pos hp h1) hno.out)
        clear h1 hno
        go_wp2_with (go_at_call 126; refine HI.out.mono ?_; rintro e W1 ⟨rfl, hb1⟩)
        go_roundw
        case rel =>
          refine ⟨pos + (Utf8.decode s pos).2, hwe, ?_, hbw2.trans (hb1.mono (by rw [Lib.iterAt_size]; omega)), hno2⟩
          rw [hb1.block w.heap.size (by rw [Lib.iterAt_size]; exact hsz)]
          exact hit2
        case measure =>
          have hit3 : W1.heap[w.heap.size]? = some (.stringIter s (pos + (Utf8.decode s pos).2)) := by
            rw [hb1.block w.heap.size (by rw [Lib.iterAt_size]; exact hsz)]
            exact hit2
          simp only [World.iterPos, hit3, hit]
          omega
      · have hd : Utf8.decode s pos = ((s.get! pos).toNat, 1) := by
          rw [Lib.decode_at]
          unfold Lib.decodeN
          rw [if_pos (by omega)]
        have hx := at_list s pos hp
        have hl : (s.get! pos).toNat < 128 := by omega
        clear h1
        rw [hd] at hnx hit2 hbw2
        generalize s.get! pos = c at *
        have hback : ((c.toNat : Int)).toNat.toUInt8 = c := by simp
        have HR := hid (Tryd.strings_IndexRune_ascii ⟨#[32, 9]⟩ (c.toNat : Int) (wr.iterAt w.heap.size s (pos + 1)) (by omega) (by omega))
        rw [hback] at HR
        by_cases hin : ([32, 9] : List UInt8).contains c = true
        · have hv : decide ((0 : Int) ≤ Lib.indexByte (⟨#[32, 9]⟩ : ByteArray).data.toList c) = true := by
            rw [← Lib.contains_iff_indexByte]; exact hin
          have hres := hid (Lib.indexAny_hit hno.out hx hin)
          clear hin hno hx
          go_wp2_with (go_at_call 126; refine HR.out.mono ?_; rintro e W1 ⟨rfl, hw⟩; rw [hw])
          go_ret
          exact ⟨by rw [hres.out]; rfl, hbw2⟩
        · have hin' : ([32, 9] : List UInt8).contains c = false := by simpa using hin
          have hv : decide ((0 : Int) ≤ Lib.indexByte (⟨#[32, 9]⟩ : ByteArray).data.toList c) = false := by
            rw [← Lib.contains_iff_indexByte]; exact hin'
          have hno2 := hid (hno.out.succ hx hin')
          clear hin hin' hno hx
          go_wp2_with (go_at_call 126; refine HR.out.mono ?_; rintro e W1 ⟨rfl, hw⟩; rw [hw])
          go_roundw
          case rel => exact ⟨pos + 1, by omega, hit2, hbw2, hno2⟩
          case measure => simp only [World.iterPos, hit2, hit]; omega
    · obtain rfl : pos = s.size := by omega
      have hnx : ∀ ty, (Instr.next (.pointer (some ⟨w.heap.size, 0, none⟩)) true ty).run Tryd.prog wr = _ := fun ty => Lib.run_next_end_at wr w.heap.size s s.size ty hit hp
      have hres := hid (Lib.indexAny_none (s := s.data.toList) (chars := [32, 9]) (by rw [Pl.data_length]; exact hno.out))
      go_wp2
      go_ret
      exact ⟨by rw [hres.out]; rfl, hbw⟩

theorem ascii9 : ∀ (j : Nat) b, (⟨#[32, 9]⟩ : ByteArray).data.toList[j]? = some b → b.toNat < 128 := fun _ b hb => of_decide_eq_true (List.all_eq_true.1 (show ([32, 9] : List UInt8).all (fun b => decide (b.toNat < 128)) = true by decide) b (List.mem_of_getElem? hb))
theorem strings_IndexAny.calls (a0 a1 : ByteArray) (r : Int) (w : World) (h : strings_IndexAny.f a0 a1 = some r) :
    Calls Tryd.prog 121 #[.string a0, .string a1] w fun e w' => e = .returned (.int .i64 r) ∧ Below w.heap.size w w' := by
  unfold strings_IndexAny.f at h
  by_cases hc : a1 = ⟨#[32, 9]⟩
  · rw [if_pos hc] at h
    by_cases hs : a0.size < 4294967281
    · rw [if_pos hs] at h
      have HR := Option.some.inj h
      subst HR
      subst hc
      by_cases h8 : a0.size ≤ 8
      · exact indexAny_short a0 w h8
      · have h116 : (Tryd.prog.info? (Tryd.lays153_ren.t 116)).map (fun i => (i.zero, i.size)) = some (some (.agg (Array.replicate 256 (.bool false))), 256) := by kernel_rfl
        refine (Any.strings_IndexAny_long Tryd.lays153 (zero_of_info h116).1 (zero_of_info h116).2 a0 ⟨#[32, 9]⟩ w (by decide) (by omega) hs (by decide) ascii9).mono fun e w' ⟨h1, h2⟩ => ⟨h1, ?_⟩
        rw [h2]
        exact ((Below.refl _ _).alloc (Nat.le_refl _) _).alloc (by simp) _
    · rw [if_neg hs] at h
      exact absurd h (by simp)
  · rw [if_neg hc] at h
    exact absurd h (by simp)
end Go.Proofs.YtbjbpgmjijeppaaDoor.Fn
set_option linter.unusedVariables false
namespace Go.Proofs.YtbjbpgmjijeppaaDoor.Fn
open Go.RowKit Go.Proofs.YtbjbpgmjijeppaaDoorW.PrintWords

def strings_TrimLeft.f (a0 a1 : ByteArray) : Option ByteArray :=
  if a0.size ≤ 140737488355328 then (if a1.size ≤ 1000 then (if a1.data.toList.all (fun b => decide (b.toNat < 128)) = true then some (Pl.str (Lib.trimLeftS a0.data.toList a1.data.toList)) else none) else none) else none
theorem strings_TrimLeft.calls (a0 a1 r : ByteArray) (w : World) (h : strings_TrimLeft.f a0 a1 = some r) :
    Calls Tryd.prog 120 #[.string a0, .string a1] w fun e w' => e = .returned (.string r) ∧ Below w.heap.size w w' := by
  unfold strings_TrimLeft.f at h
  by_cases hs : a0.size ≤ 140737488355328
  · rw [if_pos hs] at h
    by_cases hc : a1.size ≤ 1000
    · rw [if_pos hc] at h
      by_cases ha : a1.data.toList.all (fun b => decide (b.toNat < 128)) = true
      · rw [if_pos ha] at h
        have HR := Option.some.inj h
        subst HR
        exact Any.strings_TrimLeft_laid Tryd.lays161 (by kernel_rfl) a0 a1 w (by omega) (ascii_of_all ha)
      · rw [if_neg ha] at h; exact absurd h (by simp)
    · rw [if_neg hc] at h; exact absurd h (by simp)
  · rw [if_neg hs] at h; exact absurd h (by simp)
end Go.Proofs.YtbjbpgmjijeppaaDoor.Fn
namespace Go.Proofs.YtbjbpgmjijeppaaDoor.Fn
open Go.RowKit Go.Proofs.YtbjbpgmjijeppaaDoorW.PrintWords Go.Proofs.YtbjbpgmjijeppaaDoorW.PrintLast Go.Proofs.YtbjbpgmjijeppaaDoorW.PrintMore
attribute [local go_sem] max2_int min2_int max_two min_two max_three min_three max_four min_four
set_option linter.unusedVariables false
set_option linter.unusedSimpArgs false

/-! ### head_piece: function 105 -/
def head_piece.f (a0 : ByteArray) : Option (Int) := (strings_TrimLeft.f a0 (⟨#[32, 9]⟩ : ByteArray)).bind fun t499 => (if 0 ≤ (wrap64 ((a0.size : Int) - (t499.size : Int))) then (if (wrap64 ((a0.size : Int) - (t499.size : Int))) ≤ (a0.size : Int) then ((strings_IndexAny.f (a0.extract ((wrap64 ((a0.size : Int) - (t499.size : Int))) : Int).toNat a0.size) (⟨#[32, 9]⟩ : ByteArray)).bind fun t500 => (if t500 ≥ 0 then (some (wrap64 ((wrap64 ((a0.size : Int) - (t499.size : Int))) + t500))) else (some (a0.size : Int)))) else (none)) else (none))
set_option maxHeartbeats 8000000 in
set_option maxRecDepth 100000 in
theorem head_piece.calls (a0 : ByteArray) (r : Int) (w : World) (h : head_piece.f a0 = some r) :
  Calls Tryd.prog 105 #[.string a0] w fun e w' => e = .returned (.int .i64 r) ∧ Below w.heap.size w w' := by
 have HB := Aside0.mk (Below.refl w.heap.size w)
 have H : ((strings_TrimLeft.f a0 (⟨#[32, 9]⟩ : ByteArray)).bind fun t499 => (if 0 ≤ (wrap64 ((a0.size : Int) - (t499.size : Int))) then (if (wrap64 ((a0.size : Int) - (t499.size : Int))) ≤ (a0.size : Int) then ((strings_IndexAny.f (a0.extract ((wrap64 ((a0.size : Int) - (t499.size : Int))) : Int).toNat a0.size) (⟨#[32, 9]⟩ : ByteArray)).bind fun t500 => (if t500 ≥ 0 then (some (wrap64 ((wrap64 ((a0.size : Int) - (t499.size : Int))) + t500))) else (some (a0.size : Int)))) else (none)) else (none))) = some r := h
 clear h
 replace H := Option.bind_eq_some_iff.mp H
 obtain ⟨t499, A20, H⟩ := H
 replace H : (if 0 ≤ (wrap64 ((a0.size : Int) - (t499.size : Int))) then (if (wrap64 ((a0.size : Int) - (t499.size : Int))) ≤ (a0.size : Int) then ((strings_IndexAny.f (a0.extract ((wrap64 ((a0.size : Int) - (t499.size : Int))) : Int).toNat a0.size) (⟨#[32, 9]⟩ : ByteArray)).bind fun t500 => (if t500 ≥ 0 then (some (wrap64 ((wrap64 ((a0.size : Int) - (t499.size : Int))) + t500))) else (some (a0.size : Int)))) else (none)) else (none)) = some r := H
 have A2 := Aside0.mk A20
 clear A20
 obtain ⟨ji3, hji3⟩ : ∃ j_ : Int, (wrap64 ((a0.size : Int) - (t499.size : Int))) = j_ := ⟨_, rfl⟩
 replace H : (if 0 ≤ (ji3) then (if (ji3) ≤ (a0.size : Int) then ((strings_IndexAny.f (a0.extract ((ji3) : Int).toNat a0.size) (⟨#[32, 9]⟩ : ByteArray)).bind fun t500 => (if t500 ≥ 0 then (some (wrap64 ((ji3) + t500))) else (some (a0.size : Int)))) else (none)) else (none)) = some r := by first | (rw [hji3] at H; exact H) | (simp only [hji3] at H ⊢; exact H)
 (try rw [hji3] at A2)
 have hji3w : (IntKind.i64.wrap ((a0.size : Int) - (t499.size : Int))) = ji3 := (i64_w _).trans hji3
 by_cases c4 : 0 ≤ (ji3)
 ·rw [if_pos c4] at H
  have c4b0 := eq_true c4
  have c4b1 : decide (0 ≤ (ji3)) = true := decide_eq_true c4
  clear c4
  by_cases c5 : (ji3) ≤ (a0.size : Int)
  ·rw [if_pos c5] at H
   have c5b0 := eq_true c5
   have c5b1 : decide ((ji3) ≤ (a0.size : Int)) = true := decide_eq_true c5
   clear c5
   replace H := Option.bind_eq_some_iff.mp H
   obtain ⟨t500, A60, H⟩ := H
   replace H : (if t500 ≥ 0 then (some (wrap64 ((ji3) + t500))) else (some (a0.size : Int))) = some r := H
   have A6 := Aside0.mk A60
   clear A60
   by_cases c7 : t500 ≥ 0
   ·rw [if_pos c7] at H
    have c7b0 : decide (0 ≤ t500) = true := decide_eq_true c7
    clear c7
    obtain rfl := Option.some.inj H
    go_enter Tryd.func105, Tryd.ntmps105
    go_wp2_with (first | ((with_reducible refine gate_callee (f := 120) rfl ?_); refine goesL_ (some 8) rfl rfl Tryd.func120 (by kernel_rfl) rfl #[.string a0, .string (⟨#[32, 9]⟩ : ByteArray)] rfl am ?_; (with_reducible refine (strings_TrimLeft.calls a0 (⟨#[32, 9]⟩ : ByteArray) t499 _ A2.out).mono ?_); rintro e w8 ⟨rfl, hb⟩; refine ⟨_, rfl, ?_⟩; have n0_ := Aside0.mk (below_step bw hb); clear HB; have HB := n0_; clear n0_; (try clear hb); (try clear hb2); (try clear hk); (try clear hi)) | ((with_reducible refine gate_callee (f := 121) rfl ?_); refine goesL_ (some 14) rfl rfl Tryd.func121 (by kernel_rfl) rfl #[.string (a0.extract ((ji3) : Int).toNat a0.size), .string (⟨#[32, 9]⟩ : ByteArray)] rfl (by (try simp only [List.map_toArray, List.map_cons, List.map_nil]); first | done | (simp only [hji3]; rfl) | rfl | (simp only [List.length_drop, List.length_take]; rfl)) ?_; (with_reducible refine (strings_IndexAny.calls (a0.extract ((ji3) : Int).toNat a0.size) (⟨#[32, 9]⟩ : ByteArray) t500 _ A6.out).mono ?_); rintro e w9 ⟨rfl, hb⟩; refine ⟨_, rfl, ?_⟩; have n0_ := Aside0.mk (below_step bw hb); clear HB; have HB := n0_; clear n0_; (try clear hb); (try clear hb2); (try clear hk); (try clear hi)))
    go_ret
    exact ⟨by first | rfl | (simp [errW_none, errW_some] <;> rfl) | (simp only [← hji3]; first | rfl | (simp [errW_none, errW_some] <;> rfl)) | (simp [*, errW_none, errW_some] <;> rfl), bw⟩
   ·rw [if_neg c7] at H
    have c7b0 : decide (0 ≤ t500) = false := decide_eq_false c7
    clear c7
    obtain rfl := Option.some.inj H
    go_enter Tryd.func105, Tryd.ntmps105
    go_wp2_with (first | ((with_reducible refine gate_callee (f := 120) rfl ?_); refine goesL_ (some 8) rfl rfl Tryd.func120 (by kernel_rfl) rfl #[.string a0, .string (⟨#[32, 9]⟩ : ByteArray)] rfl am ?_; (with_reducible refine (strings_TrimLeft.calls a0 (⟨#[32, 9]⟩ : ByteArray) t499 _ A2.out).mono ?_); rintro e w10 ⟨rfl, hb⟩; refine ⟨_, rfl, ?_⟩; have n0_ := Aside0.mk (below_step bw hb); clear HB; have HB := n0_; clear n0_; (try clear hb); (try clear hb2); (try clear hk); (try clear hi)) | ((with_reducible refine gate_callee (f := 121) rfl ?_); refine goesL_ (some 14) rfl rfl Tryd.func121 (by kernel_rfl) rfl #[.string (a0.extract ((ji3) : Int).toNat a0.size), .string (⟨#[32, 9]⟩ : ByteArray)] rfl (by (try simp only [List.map_toArray, List.map_cons, List.map_nil]); first | done | (simp only [hji3]; rfl) | rfl | (simp only [List.length_drop, List.length_take]; rfl)) ?_; (with_reducible refine (strings_IndexAny.calls (a0.extract ((ji3) : Int).toNat a0.size) (⟨#[32, 9]⟩ : ByteArray) t500 _ A6.out).mono ?_); rintro e w11 ⟨rfl, hb⟩; refine ⟨_, rfl, ?_⟩; have n0_ := Aside0.mk (below_step bw hb); clear HB; have HB := n0_; clear n0_; (try clear hb); (try clear hb2); (try clear hk); (try clear hi)))
    go_ret
    exact ⟨by first | rfl | (simp [errW_none, errW_some] <;> rfl) | (simp only [← hji3]; first | rfl | (simp [errW_none, errW_some] <;> rfl)) | (simp [*, errW_none, errW_some] <;> rfl), bw⟩
  ·rw [if_neg c5] at H
   exact absurd H (by simp)
 ·rw [if_neg c4] at H
  exact absurd H (by simp)

end Go.Proofs.YtbjbpgmjijeppaaDoor.Fn
set_option linter.unusedVariables false
set_option linter.unusedSimpArgs false
namespace Go.Proofs.YtbjbpgmjijeppaaDoor.Pl
open Go.RowKit Go.Proofs.YtbjbpgmjijeppaaDoorW.PrintWords Go.Proofs.YtbjbpgmjijeppaaDoor.Fn

/-! head: how a field is written, in pieces. -/
def wb (c : UInt8) : Bool := ([32, 9] : List UInt8).contains c
def lead (s : Bytes) : Nat := (s.takeWhile wb).length
def word (s : Bytes) : Nat := (s.takeWhile (fun c => !wb c)).length
def pieceL (s : Bytes) : Nat := lead s + word (s.drop (lead s))
theorem lead_le (s : Bytes) : lead s ≤ s.length := (List.takeWhile_prefix wb).length_le
theorem word_le (s : Bytes) : word s ≤ s.length := (List.takeWhile_prefix _).length_le
theorem pieceL_le (s : Bytes) : pieceL s ≤ s.length := by
  unfold pieceL
  have h1 := lead_le s
  have h2 := word_le (s.drop (lead s))
  rw [List.length_drop] at h2
  omega
theorem pieceL_pos (s : Bytes) (h : s ≠ []) : 0 < pieceL s := by
  cases s with
  | nil => exact absurd rfl h
  | cons c r =>
    unfold pieceL lead
    by_cases hc : wb c = true
    · rw [List.takeWhile_cons_of_pos hc]; simp; omega
    · rw [List.takeWhile_cons_of_neg hc]
      simp only [List.length_nil, List.drop_zero]
      unfold word
      rw [List.takeWhile_cons_of_pos (by simpa using hc)]; simp
theorem drop_lead : ∀ s : Bytes, s.dropWhile wb = s.drop (lead s)
  | [] => rfl
  | c :: r => by
    unfold lead
    by_cases hc : wb c = true
    · rw [List.takeWhile_cons_of_pos hc, List.dropWhile_cons_of_pos hc, drop_lead r]; rfl
    · rw [List.takeWhile_cons_of_neg hc, List.dropWhile_cons_of_neg hc]; rfl
theorem indexAny_word : ∀ s : Bytes, Lib.indexAny s [32, 9] = if word s = s.length then -1 else (word s : Int)
  | [] => by rfl
  | c :: r => by
    have ih := indexAny_word r
    have hl := word_le r
    unfold word at ih hl ⊢
    by_cases hc : wb c = true
    · have hc' : ([32, 9] : List UInt8).contains c = true := hc
      rw [List.takeWhile_cons_of_neg (by simp [hc])]
      simp [Lib.indexAny]
      intro h1 h2
      exfalso
      simp at hc'
      rcases hc' with rfl | rfl <;> simp at *
    · have hc' : ([32, 9] : List UInt8).contains c = false := Bool.eq_false_iff.mpr hc
      rw [List.takeWhile_cons_of_pos (by simpa using hc), Lib.indexAny]
      rw [hc', if_neg (by decide), ih]
      simp only [List.length_cons]
      by_cases h : (List.takeWhile (fun c => !wb c) r).length = r.length
      · rw [if_pos h, if_pos (by decide), if_pos (by omega)]
      · rw [if_neg h, if_neg (by first | (simp; done) | (simp; omega)), if_neg (by omega)]
        omega
theorem headpiece_is (s : ByteArray) (h : s.size ≤ 4000000000) : head_piece.f s = some (pieceL (bs s) : Int) := by
  have hb := bs_length s
  have h1 := lead_le (bs s)
  have h3 := pieceL_le (bs s)
  have e1 : strings_TrimLeft.f s ⟨#[32, 9]⟩ = some (str ((bs s).drop (lead (bs s)))) := by
    unfold strings_TrimLeft.f
    rw [if_pos (by omega), if_pos (by decide), if_pos (by decide)]
    congr 2
    exact drop_lead _
  have e2 : (str ((bs s).drop (lead (bs s)))).size = s.size - lead (bs s) := by rw [str_size, List.length_drop, hb]
  have e3 : wrap64 ((s.size : Int) - ((s.size - lead (bs s) : Nat) : Int)) = (lead (bs s) : Int) := by
    rw [wrap_id (by omega) (by omega)]
    omega
  unfold head_piece.f
  rw [e1]
  simp only [Option.bind_some]
  rw [e2, e3, if_pos (by omega), if_pos (by omega), Int.toNat_natCast]
  have e4 : strings_IndexAny.f (s.extract (lead (bs s)) s.size) ⟨#[32, 9]⟩ = some (Lib.indexAny ((bs s).drop (lead (bs s))) [32, 9]) := by
    unfold strings_IndexAny.f
    have e5 : bs (s.extract (lead (bs s)) s.size) = (bs s).drop (lead (bs s)) := by
      rw [bs_extract, List.take_of_length_le (by omega)]
    have e6 : (s.extract (lead (bs s)) s.size).size = s.size - lead (bs s) := by rw [← bs_length, e5, List.length_drop, hb]
    rw [if_pos rfl, if_pos (by omega)]
    show some (Lib.indexAny (bs _) _) = _
    rw [e5]
  rw [e4]
  simp only [Option.bind_some]
  rw [indexAny_word]
  have h4 := word_le ((bs s).drop (lead (bs s)))
  rw [List.length_drop] at h4
  unfold pieceL
  by_cases hw : word ((bs s).drop (lead (bs s))) = ((bs s).drop (lead (bs s))).length
  · rw [if_pos hw, if_neg (by decide)]
    rw [List.length_drop] at hw
    congr 1
    omega
  · rw [if_neg hw, if_pos (by omega), wrap_id (by omega) (by omega)]
    congr 1
def brk (first : Bool) (pos : Nat) (s : Bytes) : Bool := !first && decide (78 < pos + pieceL s)
def showFrom : Nat → Bool → Nat → Bytes → Bytes
  | 0, _, _, _ => []
  | f + 1, first, pos, s => if s = [] then [] else (if brk first pos s = true then [13, 10] else []) ++ (s.take (pieceL s) ++ showFrom f false ((if brk first pos s = true then 0 else pos) + pieceL s) (s.drop (pieceL s)))
def showL (n v : Bytes) : Bytes := (n ++ [58]) ++ (showFrom (v.length + 1) true (n.length + 1) (if v = [] then [] else 32 :: v) ++ [13, 10])
theorem showFrom_length : ∀ (f : Nat) (first : Bool) (pos : Nat) (s : Bytes), (showFrom f first pos s).length ≤ 3 * s.length
  | 0, _, _, _ => by simp [showFrom]
  | f + 1, first, pos, s => by
    unfold showFrom
    by_cases h : s = []
    · rw [if_pos h]; simp
    · have hp := pieceL_pos s h
      have hl := pieceL_le s
      have ih : ∀ q, (showFrom f false q (s.drop (pieceL s))).length ≤ 3 * (s.length - pieceL s) := fun q => by
        have := showFrom_length f false q (s.drop (pieceL s))
        rwa [List.length_drop] at this
      have i1 := ih (0 + pieceL s)
      have i2 := ih (pos + pieceL s)
      rw [if_neg h, List.length_append, List.length_append, List.length_take, Nat.min_eq_left hl]
      split
      · simp only [List.length_cons, List.length_nil]; omega
      · simp only [List.length_nil]; omega
theorem showL_length (n v : Bytes) : (showL n v).length ≤ n.length + 3 * v.length + 6 := by
  unfold showL
  have h := showFrom_length (v.length + 1) true (n.length + 1) (if v = [] then [] else 32 :: v)
  have : (if v = [] then ([] : Bytes) else 32 :: v).length ≤ v.length + 1 := by split <;> simp
  simp only [List.length_append, List.length_cons, List.length_nil]
  omega
end Go.Proofs.YtbjbpgmjijeppaaDoor.Pl
set_option linter.unusedVariables false
set_option linter.unusedSimpArgs false
namespace Go.Proofs.YtbjbpgmjijeppaaDoor.Fn
open Go.RowKit Go.Proofs.YtbjbpgmjijeppaaDoorW.PrintWords

def head_Show.f (a0 a1 : ByteArray) : Option ByteArray := if a0.size ≤ 1000000000 then (if a1.size ≤ 1000000000 then some (Pl.str (Pl.showL (Pl.bs a0) (Pl.bs a1))) else none) else none
theorem strCells_bs (s : ByteArray) : Lib.strCells s = Lib.byteCells (Pl.bs s) := rfl

theorem bd_below {B b : Nat} {l : List Value} {W W' : World} (h : isBd B b l W) (hb : Below W.heap.size W W') : isBd B b l W' := by
  rcases h with h | h
  · refine .inl ?_
    have hl := h.lt
    obtain ⟨h1, v, h2, h3, h4⟩ := h
    exact ⟨h1, v, (hb.block b hl).trans h2, h3.kept (row := none) ⟨hb.os, hb.tape, hb.output, hb.size, fun k hk _ => hb.block k hk⟩ (Classical.em _), h4⟩
  · refine .inr ?_
    have hl := h.lt
    obtain ⟨h1, v, h2, h3, h4⟩ := h
    exact ⟨h1, v, (hb.block b hl).trans h2, h3.kept (row := none) ⟨hb.os, hb.tape, hb.output, hb.size, fun k hk _ => hb.block k hk⟩ (Classical.em _), h4⟩
theorem bd_lt {B b : Nat} {l : List Value} {W : World} (h : isBd B b l W) : b < W.heap.size := by
  rcases h with h | h <;> exact h.lt
def strLen : Value → Nat | .string s => s.size | _ => 0
theorem toList_ne {s : ByteArray} (h : s.toList = ([] : List UInt8)) : (s.toList == ([] : List UInt8)) = true ∧ (s.toList != ([] : List UInt8)) = false := ⟨beq_iff_eq.mpr h, bne_eq_false_iff_eq.mpr h⟩
theorem toList_ne' {s : ByteArray} (h : ¬ s.toList = ([] : List UInt8)) : (s.toList == ([] : List UInt8)) = false ∧ (s.toList != ([] : List UInt8)) = true := ⟨beq_eq_false_iff_ne.mpr h, bne_iff_ne.mpr h⟩

set_option maxHeartbeats 8000000 in
set_option maxRecDepth 100000 in
theorem head_Show.calls (a0 a1 r : ByteArray) (w : World) (h : head_Show.f a0 a1 = some r) :
    Calls Tryd.prog 90 #[.agg #[.string a0, .string a1]] w fun e w' => e = .returned (.string r) ∧ Below w.heap.size w w' := by
  unfold head_Show.f at h
  by_cases hs : a0.size ≤ 1000000000
  · rw [if_pos hs] at h
    by_cases hs1 : a1.size ≤ 1000000000
    · rw [if_pos hs1] at h
      have HR := hid (Option.some.inj h)
      clear h
      have hz1 : (a0 ++ (⟨#[58]⟩ : ByteArray)).size = a0.size + 1 := by rw [ByteArray.size_append]; rfl
      have hz2 : ((⟨#[32]⟩ : ByteArray) ++ a1).size = 1 + a1.size := by rw [ByteArray.size_append]; rfl
      have hB1 : Below w.heap.size w (w.alloc (.cells #[.string a0, .string a1] 126)) := (Below.refl _ w).alloc (Nat.le_refl _) _
      have hF : isBd (w.heap.size + 1) (w.heap.size + 1) [] ((w.alloc (.cells #[.string a0, .string a1] 126)).alloc (.cells #[.pointer none, .slice none 0 0] 89)) := by
        have := Lib.IsBuilderF.of (Lib.fresh_isBuilder 89 5 (w.alloc (.cells #[.string a0, .string a1] 126)))
        rwa [World.size_alloc] at this
      have hbx : (w.alloc (.cells #[.string a0, .string a1] 126)).heap[w.heap.size]? = some (.cells #[.string a0, .string a1] 126 (0, 0)) := World.alloc_heap_new w _
      have HX : Hid (∀ W, Below (w.heap.size + 1) ((w.alloc (.cells #[.string a0, .string a1] 126)).alloc (.cells #[.pointer none, .slice none 0 0] 89)) W → W.heap[w.heap.size]? = some (.cells #[.string a0, .string a1] 126 (0, 0)) ∧ Below w.heap.size w W) := fun W hW => by
        have h0 := ((Below.refl (w.heap.size + 1) (w.alloc (.cells #[.string a0, .string a1] 126))).alloc (by simp) (.cells #[.pointer none, .slice none 0 0] 89)).trans hW
        exact ⟨(h0.block w.heap.size (by omega)).trans hbx, hB1.trans (h0.mono (by omega))⟩
      have HF := hid hF
      clear hF hbx hB1
      have HT : Hid (∃ S0 : ByteArray, S0 = (if a1.toList = [] then ⟨#[]⟩ else ⟨#[32]⟩ ++ a1) ∧ S0.size ≤ a1.size + 1 ∧ Pl.bs S0 = (if Pl.bs a1 = [] then [] else 32 :: Pl.bs a1)) := by
        refine ⟨_, rfl, ?_, ?_⟩
        · split
          · exact Nat.zero_le _
          · rw [hz2]; omega
        · rw [Pl.toList_bs]
          split
          · rfl
          · rw [Pl.bs_app]; rfl
      have hz3 := Pl.bs_length a0
      have hz4 := Pl.bs_length a1
      obtain ⟨S0, hS, hSz, hSb⟩ := HT.out
      have HI : Hid ((Pl.bs a0 ++ [58]) ++ (Pl.showFrom (a1.size + 1) true (a0.size + 1) (Pl.bs S0) ++ [13, 10]) = Pl.showL (Pl.bs a0) (Pl.bs a1)) := by
        show _ = _
        unfold Pl.showL
        rw [hSb, hz3, hz4]
      clear HT hSb
      have hv : (a1.toList = [] ∧ (a1.toList == ([] : List UInt8)) = true ∧ (a1.toList != ([] : List UInt8)) = false ∧ Hid (Value.string ⟨#[]⟩ = .string S0)) ∨ (¬ a1.toList = [] ∧ (a1.toList == ([] : List UInt8)) = false ∧ (a1.toList != ([] : List UInt8)) = true ∧ Hid (Value.string (⟨#[32]⟩ ++ a1) = .string S0)) := by
        by_cases h : a1.toList = []
        · exact .inl ⟨h, (toList_ne h).1, (toList_ne h).2, hid (by rw [hS, if_pos h])⟩
        · exact .inr ⟨h, (toList_ne' h).1, (toList_ne' h).2, hid (by rw [hS, if_neg h])⟩
      clear hS
      rcases hv with ⟨hv, hv0, hv1, hS⟩ | ⟨hv, hv0, hv1, hS⟩
      all_goals
        go_enter Tryd.func90, Tryd.ntmps90
        go_wp2_with (go_at_call 49; refine (bd_string (w.heap.size + 1) (w.heap.size + 1) [] _ _ HF.out (by rw [hz1]; simp only [List.length_nil]; omega) (by simp)).mono ?_; rintro e W1 ⟨rfl, h1, b1, k1⟩; obtain ⟨hb1, B1⟩ := HX.out _ b1; have c0 : W1.cell? ⟨w.heap.size, 0, none⟩ = some (.string a0) := (by rw [Lib.cell_of_heap hb1]; rfl); have c1 : W1.cell? ⟨w.heap.size, 1, none⟩ = some (.string a1) := (by rw [Lib.cell_of_heap hb1]; rfl); clear b1 k1 hb1)
        go_loopw [4, 5, 6] (fun v4 v5 v6 wr => ∃ (pos fuel : Nat) (fst : Bool) (s : ByteArray) (acc : List UInt8), v4 = .int .i64 pos ∧ v5 = .string s ∧ v6 = .bool fst ∧ isBd (w.heap.size + 1) (w.heap.size + 1) (Lib.byteCells acc) wr ∧ Below w.heap.size w wr ∧ Hid (acc ++ (Pl.showFrom fuel fst pos (Pl.bs s) ++ [13, 10]) = Pl.showL (Pl.bs a0) (Pl.bs a1)) ∧ s.size ≤ fuel ∧ pos ≤ acc.length ∧ acc.length + 3 * s.size ≤ 4000000100) (fun v4 v5 v6 wr => strLen v5)
        case atStart =>
          refine ⟨a0.size + 1, a1.size + 1, true, S0, Pl.bs a0 ++ [58], rfl, hS.out, rfl, ?_, B1, HI, hSz, by rw [List.length_append, hz3]; exact Nat.le_refl _, by rw [List.length_append, hz3]; simp only [List.length_cons, List.length_nil]; omega⟩
          have := h1.is
          rw [List.nil_append, strCells_bs, Pl.bs_app] at this
          exact this
        case round =>
          obtain ⟨pos, fuel, fst, s, acc, rfl, rfl, rfl, hI, hbw, hacc, hfu, hpa, hsz⟩ := hrel
          have hzs := Pl.bs_length s
          have hwsz := hbw.size
          have hblt := bd_lt hI
          by_cases he : s.toList = []
          · obtain ⟨e0, e1⟩ := toList_ne he
            have hend : Hid (acc ++ [13, 10] = Pl.showL (Pl.bs a0) (Pl.bs a1)) := by
              have h0 := hacc.out
              rw [show Pl.bs s = [] from by rw [← Pl.toList_bs]; exact he] at h0
              cases fuel with
              | zero => exact h0
              | succ f => rw [Pl.showFrom, if_pos rfl] at h0; exact h0
            clear hacc he
            go_wp2_with (first
              | (go_at_call 49; refine (bd_string (w.heap.size + 1) (w.heap.size + 1) (Lib.byteCells acc) ⟨#[13, 10]⟩ _ hI (by rw [Lib.byteCells_length]; show acc.length + 2 ≤ _; omega) (by omega)).mono ?_; rintro e W2 ⟨rfl, h2, b2, k2⟩; have h3 : isBd (w.heap.size + 1) (w.heap.size + 1) (Lib.byteCells (acc ++ [13, 10])) W2 := (by rw [Lib.byteCells_append]; exact h2.is))
              | (go_at_call 50; refine (Tryd.Builder_String_any_k (w.heap.size + 1) (w.heap.size + 1) (acc ++ [13, 10]) _ h3 (by have := b2.size; omega)).mono ?_; rintro e W3 ⟨rfl, _, b3, _⟩))
            go_ret
            refine ⟨?_, hbw.trans ((b2.mono (by omega)).trans (b3.mono (by omega)))⟩
            rw [← HR.out, ← hend.out]
            rfl
          · obtain ⟨e0, e1⟩ := toList_ne' he
            have hne : Pl.bs s ≠ [] := by rw [← Pl.toList_bs]; exact he
            have hp1 := Pl.pieceL_pos _ hne
            have hp2 := Pl.pieceL_le (Pl.bs s)
            have hp3 := Pl.headpiece_is s (by omega)
            obtain ⟨f, rfl⟩ : ∃ f, fuel = f + 1 := ⟨fuel - 1, by omega⟩
            have hstep := hacc.out
            rw [Pl.showFrom, if_neg hne] at hstep
            unfold Pl.brk at hstep
            obtain ⟨n, hn⟩ : ∃ n, Pl.pieceL (Pl.bs s) = n := ⟨_, rfl⟩
            rw [hn] at hp1 hp2 hp3 hstep
            have HP := hid hp3
            have hx1 : Pl.bs (s.extract 0 n) = (Pl.bs s).take n := by rw [Pl.bs_extract, List.drop_zero]
            have hx2 : Pl.bs (s.extract n s.size) = (Pl.bs s).drop n := by rw [Pl.bs_extract, List.take_of_length_le (by omega)]
            have hx3 : (s.extract 0 n).size = n := by rw [← Pl.bs_length, hx1, List.length_take]; omega
            have hx4 : (s.extract n s.size).size = s.size - n := by rw [← Pl.bs_length, hx2, List.length_drop]; omega
            have hn1 : ((n : Int) ≤ (s.size : Int)) = True := eq_true (by omega)
            have hn2 : ((0 : Int) ≤ (n : Int)) = True := eq_true (by omega)
            clear hacc he hne hn hp3
            rcases (show fst = true ∨ (fst = false ∧ ¬ 78 < pos + n) ∨ (fst = false ∧ 78 < pos + n) from by cases fst <;> by_cases h : 78 < pos + n <;> simp [h]) with rfl | ⟨rfl, hb⟩ | ⟨rfl, hb⟩
            · have hnew := hid hstep
              clear hstep
              go_wp2_with (first
                | (go_at_call 105; refine (head_piece.calls s n _ HP.out).mono ?_; rintro e W2 ⟨rfl, b2⟩; have hI2 := bd_below hI b2)
                | (go_at_call 49; refine (bd_string (w.heap.size + 1) (w.heap.size + 1) (Lib.byteCells acc) (s.extract 0 n) _ hI2 (by rw [Lib.byteCells_length, hx3]; omega) (by have := b2.size; omega)).mono ?_; rintro e W3 ⟨rfl, h2, b3, k2⟩))
              go_roundw
              case rel =>
                refine ⟨pos + n, f, false, s.extract n s.size, acc ++ (Pl.bs s).take n, by go_num, rfl, rfl, ?_, hbw.trans ((b2.mono (by omega)).trans (b3.mono (by omega))), ?_, by omega, by rw [List.length_append, List.length_take]; omega, by rw [List.length_append, List.length_take, hx4]; omega⟩
                · rw [Lib.byteCells_append, ← hx1]; exact h2.is
                · show _ = _
                  rw [hx2, ← hnew.out]
                  simp []
              case measure => simp only [strLen, hx4]; omega
            · have d0 : decide ((78 : Int) < (pos : Int) + (n : Int)) = false := decide_eq_false (by omega)
              have hnew := hid hstep
              clear hstep
              go_wp2_with (first
                | (go_at_call 105; refine (head_piece.calls s n _ HP.out).mono ?_; rintro e W2 ⟨rfl, b2⟩; have hI2 := bd_below hI b2)
                | (go_at_call 49; refine (bd_string (w.heap.size + 1) (w.heap.size + 1) (Lib.byteCells acc) (s.extract 0 n) _ hI2 (by rw [Lib.byteCells_length, hx3]; omega) (by have := b2.size; omega)).mono ?_; rintro e W3 ⟨rfl, h2, b3, k2⟩))
              go_roundw
              case rel =>
                refine ⟨pos + n, f, false, s.extract n s.size, acc ++ (Pl.bs s).take n, by go_num, rfl, rfl, ?_, hbw.trans ((b2.mono (by omega)).trans (b3.mono (by omega))), ?_, by omega, by rw [List.length_append, List.length_take]; omega, by rw [List.length_append, List.length_take, hx4]; omega⟩
                · rw [Lib.byteCells_append, ← hx1]; exact h2.is
                · show _ = _
                  rw [hx2, ← hnew.out]
                  simp [hb]
              case measure => simp only [strLen, hx4]; omega
            · have d0 : decide ((78 : Int) < (pos : Int) + (n : Int)) = true := decide_eq_true (by omega)
              have hnew := hid hstep
              clear hstep
              go_wp2_with (first
                | (go_at_call 105; refine (head_piece.calls s n _ HP.out).mono ?_; rintro e W2 ⟨rfl, b2⟩; have hI2 := bd_below hI b2)
                | (go_at_call 49; refine (bd_string (w.heap.size + 1) (w.heap.size + 1) (Lib.byteCells (acc ++ [13, 10])) (s.extract 0 n) _ h3 (by rw [Lib.byteCells_length, hx3, List.length_append]; show acc.length + 2 + n ≤ _; omega) (by have := b2.size; have := b3.size; omega)).mono ?_; rintro e W4 ⟨rfl, h4, b4, k4⟩)
                | (go_at_call 49; refine (bd_string (w.heap.size + 1) (w.heap.size + 1) (Lib.byteCells acc) ⟨#[13, 10]⟩ _ hI2 (by rw [Lib.byteCells_length]; show acc.length + 2 ≤ _; omega) (by have := b2.size; omega)).mono ?_; rintro e W3 ⟨rfl, h2, b3, k2⟩; have h3 : isBd (w.heap.size + 1) (w.heap.size + 1) (Lib.byteCells (acc ++ [13, 10])) W3 := (by rw [Lib.byteCells_append]; exact h2.is)))
              go_roundw
              case rel =>
                refine ⟨n, f, false, s.extract n s.size, acc ++ [13, 10] ++ (Pl.bs s).take n, by go_num, rfl, rfl, ?_, hbw.trans ((b2.mono (by omega)).trans ((b3.mono (by omega)).trans (b4.mono (by omega)))), ?_, by omega, by rw [List.length_append, List.length_take]; omega, ?_⟩
                · rw [Lib.byteCells_append, ← hx1]; exact h4.is
                · show _ = _
                  rw [hx2, ← hnew.out]
                  simp [hb]
                · rw [List.length_append, List.length_append, List.length_take, hx4]
                  simp only [List.length_cons, List.length_nil]
                  omega
              case measure => simp only [strLen, hx4]; omega
    · rw [if_neg hs1] at h; exact absurd h (by simp)
  · rw [if_neg hs] at h; exact absurd h (by simp)
end Go.Proofs.YtbjbpgmjijeppaaDoor.Fn
set_option linter.unusedVariables false
set_option linter.unusedSimpArgs false
namespace Go.Proofs.YtbjbpgmjijeppaaDoor.Pl
def printL (l : List (Bytes × Bytes)) : Bytes := l.flatMap fun f => showL f.1 f.2
end Go.Proofs.YtbjbpgmjijeppaaDoor.Pl
namespace Go.Proofs.YtbjbpgmjijeppaaDoor.Fn
open Go.RowKit Go.Proofs.YtbjbpgmjijeppaaDoorW.PrintWords

def ofP (x : S126) : List UInt8 × List UInt8 := (Pl.bs x.f0, Pl.bs x.f1)
def okP (x : S126) : Bool := decide (x.f0.size ≤ 1000000) && decide (x.f1.size ≤ 1000000)
def head_Print.f (l0 : List (S126)) : Option ByteArray :=
  if l0.length ≤ 1000000 then (if l0.all okP = true then some (Pl.str (Pl.printL (l0.map ofP))) else none) else none
theorem print_len : ∀ (l : List (S126)), l.all okP = true → (Pl.printL (l.map ofP)).length ≤ 5000000 * l.length
  | [], _ => by simp [Pl.printL]
  | x :: l, h => by
    rw [List.all_cons, Bool.and_eq_true] at h
    have ih := print_len l h.2
    have h1 := h.1
    unfold okP at h1
    rw [Bool.and_eq_true, decide_eq_true_iff, decide_eq_true_iff] at h1
    have h2 := Pl.showL_length (Pl.bs x.f0) (Pl.bs x.f1)
    rw [Pl.bs_length, Pl.bs_length] at h2
    have e : Pl.printL ((x :: l).map ofP) = Pl.showL (Pl.bs x.f0) (Pl.bs x.f1) ++ Pl.printL (l.map ofP) := rfl
    rw [e, List.length_append, List.length_cons]
    omega
theorem print_take (l : List (S126)) (i : Nat) (h : i < l.length) : Pl.printL ((l.map ofP).take (i + 1)) = Pl.printL ((l.map ofP).take i) ++ Pl.showL (Pl.bs l[i].f0) (Pl.bs l[i].f1) := by
  rw [List.take_succ_eq_append_getElem (by rw [List.length_map]; exact h)]
  unfold Pl.printL
  rw [List.flatMap_append]
  simp [ofP]

set_option maxHeartbeats 8000000 in
set_option maxRecDepth 100000 in
theorem head_Print.calls (A0 : Option Addr) (c0 : Nat) (l0 : List (S126)) (r : ByteArray) (w : World) (hr0 : Kd.C k126 w A0 l0.length l0) (hc0 : l0.length ≤ c0) (h : head_Print.f l0 = some r) :
    Calls Tryd.prog 70 #[.slice A0 l0.length c0] w fun e w' => e = .returned (.string r) ∧ Below w.heap.size w w' := by
  unfold head_Print.f at h
  by_cases hs : l0.length ≤ 1000000
  · rw [if_pos hs] at h
    by_cases hs1 : l0.all okP = true
    · rw [if_pos hs1] at h
      have HR := hid (Option.some.inj h)
      have HO := hid hs1
      clear h hs1
      have HC := hid hr0
      clear hr0
      go_enter Tryd.func70, Tryd.ntmps70
      go_wp2
      go_loopw [8] (fun v8 wr => ∃ i : Nat, i ≤ l0.length ∧ v8 = .int .i64 i ∧ isBd w.heap.size w.heap.size (Lib.byteCells (Pl.printL ((l0.map ofP).take i))) wr ∧ Below w.heap.size w wr) (fun v8 _ => l0.length - (intOf v8).toNat)
      case atStart => exact ⟨0, Nat.zero_le _, rfl, by rw [List.take_zero]; exact Lib.IsBuilderF.of (Lib.fresh_isBuilder _ _ w), (Below.refl _ w).alloc (Nat.le_refl _) _⟩
      case round =>
        obtain ⟨i, hi, rfl, hI, hbw⟩ := hrel
        have hwsz := hbw.size
        by_cases hlt : i < l0.length
        · have hall := List.all_eq_true.1 HO.out (l0[i]'hlt) (List.getElem_mem hlt)
          unfold okP at hall
          rw [Bool.and_eq_true, decide_eq_true_iff, decide_eq_true_iff] at hall
          obtain ⟨hl1, hl2⟩ := hall
          have hlen := print_len (l0.take i) (List.all_eq_true.2 fun x hx => List.all_eq_true.1 HO.out x (List.mem_of_mem_take hx))
          rw [List.length_take, List.map_take] at hlen
          have hsl := Pl.showL_length (Pl.bs (l0[i]'hlt).f0) (Pl.bs (l0[i]'hlt).f1)
          rw [Pl.bs_length, Pl.bs_length] at hsl
          have hpt := hid (print_take l0 i hlt)
          have hsf : head_Show.f (l0[i]'hlt).f0 (l0[i]'hlt).f1 = some (Pl.str (Pl.showL (Pl.bs (l0[i]'hlt).f0) (Pl.bs (l0[i]'hlt).f1))) := by
            unfold head_Show.f
            rw [if_pos (by omega), if_pos (by omega)]
          obtain ⟨ad, e0, hx0, hx1⟩ := at_T126 HC.out (i : Int) (by omega) (by omega)
          subst e0
          have hrd : rd_T126 l0 (i : Int) = l0[i]'hlt := by
            unfold rd_T126
            rw [Int.toNat_natCast, List.getD_eq_getElem?_getD, List.getElem?_eq_getElem hlt]; rfl
          rw [hrd] at hx0 hx1
          simp only [Int.toNat_natCast] at hx0 hx1
          replace hx0 := (hbw.cell (World.block_lt_of_cell? w _ hx0)).trans hx0
          replace hx1 := (hbw.cell (World.block_lt_of_cell? w _ hx1)).trans hx1
          generalize l0[i]'hlt = x at *
          have hsh := hid hsf
          have c1 : ((0 : Int) ≤ (i : Int)) = True := eq_true (by omega)
          have c2 : ((i : Int) < (l0.length : Int)) = True := eq_true (by omega)
          have c3 : decide ((i : Int) < (l0.length : Int)) = true := decide_eq_true (by omega)
          clear hsf hrd
          have hIX : isBd w.heap.size w.heap.size (Lib.byteCells (Pl.printL ((l0.map ofP).take i))) (wr.alloc (.cells #[.string x.f0, .string x.f1] 126)) := Lib.IsBuilderF.alloc hI _
          have hzs : (Pl.str (Pl.showL (Pl.bs x.f0) (Pl.bs x.f1))).size ≤ 4000006 := by rw [Pl.str_size]; omega
          go_wp2_with (first
            | (go_at_call 90; refine (head_Show.calls x.f0 x.f1 _ _ hsh.out).mono ?_; rintro e W1 ⟨rfl, b1⟩; have hI1 := bd_below hIX b1)
            | (go_at_call 49; refine (bd_string w.heap.size w.heap.size _ (Pl.str (Pl.showL (Pl.bs x.f0) (Pl.bs x.f1))) _ hI1 (by rw [Lib.byteCells_length]; omega) (by have := b1.size; simp only [World.size_alloc] at this; omega)).mono ?_; rintro e W2 ⟨rfl, h2, b2, k2⟩))
          go_roundw
          case rel =>
            refine ⟨i + 1, by omega, by go_num, ?_, hbw.trans ((((Below.refl wr.heap.size wr).alloc (Nat.le_refl _) _).mono (by omega)).trans ((b1.mono (by simp only [World.size_alloc]; omega)).trans b2))⟩
            rw [hpt.out, Lib.byteCells_append]
            exact h2.is
          case measure => simp [intOf]; omega
        · have c3 : decide ((i : Int) < (l0.length : Int)) = false := decide_eq_false (by omega)
          have hend := hid (show ((l0.map ofP).take i) = l0.map ofP from List.take_of_length_le (by rw [List.length_map]; omega))
          go_wp2_with (go_at_call 50; refine (Tryd.Builder_String_any_k w.heap.size w.heap.size _ _ hI hwsz).mono ?_; rintro e W1 ⟨rfl, _, b1, _⟩)
          go_ret
          refine ⟨?_, hbw.trans b1⟩
          rw [← HR.out, hend.out]
          rfl
    · rw [if_neg hs1] at h; exact absurd h (by simp)
  · rw [if_neg hs] at h; exact absurd h (by simp)
end Go.Proofs.YtbjbpgmjijeppaaDoor.Fn
namespace Go.Proofs.YtbjbpgmjijeppaaDoor.Fn
open Go.RowKit Go.Proofs.YtbjbpgmjijeppaaDoorW.PrintWords Go.Proofs.YtbjbpgmjijeppaaDoorW.PrintLast Go.Proofs.YtbjbpgmjijeppaaDoorW.PrintMore
attribute [local go_sem] max2_int min2_int max_two min_two max_three min_three max_four min_four
set_option linter.unusedVariables false
set_option linter.unusedSimpArgs false

/-! ### msg_Message_Text: function 44 -/
def msg_Message_Text.f (l0_0 : List (S126)) (a0_1 : ByteArray) : Option (ByteArray) := (head_Print.f l0_0).bind fun t502 => (if t502.size + 2 ≤ 9223372036854775807 then (if (t502 ++ (⟨#[13, 10]⟩ : ByteArray)).size + a0_1.size ≤ 9223372036854775807 then (some ((t502 ++ (⟨#[13, 10]⟩ : ByteArray)) ++ a0_1)) else (none)) else (none))
def msg_Message_Text.T1 : Bool × List (List Nat × List Nat) := (true, [([], []), ([0], [0]), ([1], [1]), ([2], [2]), ([], []), ([4], [4]), ([3, 5], [3, 5]), ([6, 2, 0, 1, 2, 3, 4, 5, 6], [6])])
def msg_Message_Text.B1 : List Nat := [0, 1, 3, 7, 0, 16, 63, 127]
theorem msg_Message_Text.tab1 : rtab .any (opsOf Tryd.f44 1) = msg_Message_Text.T1 := by kernel_rfl
theorem msg_Message_Text.bits1 : waitsOk msg_Message_Text.T1.2 msg_Message_Text.B1 = true := by kernel_rfl
set_option maxHeartbeats 8000000 in
set_option maxRecDepth 100000 in
theorem msg_Message_Text.calls (A0_0 : Option Addr) (c0_0 : Nat) (l0_0 : List (S126)) (a0_1 : ByteArray) (r : ByteArray) (w : World) (hr0_0 : Kd.C k126 w A0_0 l0_0.length l0_0) (hc0_0 : l0_0.length ≤ c0_0) (h : msg_Message_Text.f l0_0 a0_1 = some r) :
  Calls Tryd.prog 44 #[.agg #[.slice A0_0 l0_0.length c0_0, .string a0_1]] w fun e w' => e = .returned (.string r) ∧ Below w.heap.size w w' := by
 have hu53 := Tryd.underlying53
 have HR0_0 := Aside0.mk hr0_0
 have HC0_0 := Aside0.mk hc0_0
 clear hr0_0 hc0_0
 have HB := Aside0.mk (Below.refl w.heap.size w)
 have H : ((head_Print.f l0_0).bind fun t502 => (if t502.size + 2 ≤ 9223372036854775807 then (if (t502 ++ (⟨#[13, 10]⟩ : ByteArray)).size + a0_1.size ≤ 9223372036854775807 then (some ((t502 ++ (⟨#[13, 10]⟩ : ByteArray)) ++ a0_1)) else (none)) else (none))) = some r := h
 clear h
 replace H := Option.bind_eq_some_iff.mp H
 obtain ⟨t502, A20, H⟩ := H
 replace H : (if t502.size + 2 ≤ 9223372036854775807 then (if (t502 ++ (⟨#[13, 10]⟩ : ByteArray)).size + a0_1.size ≤ 9223372036854775807 then (some ((t502 ++ (⟨#[13, 10]⟩ : ByteArray)) ++ a0_1)) else (none)) else (none)) = some r := H
 have A2 := Aside0.mk A20
 clear A20
 by_cases c3 : t502.size + 2 ≤ 9223372036854775807
 ·rw [if_pos c3] at H
  have c3b0 := eq_true c3
  have c3b1 : decide (t502.size + 2 ≤ 9223372036854775807) = true := decide_eq_true c3
  try have c3b2 : (9223372036854775807 < t502.size + 2) = False := eq_false (Nat.not_lt.2 c3)
  by_cases c4 : (t502 ++ (⟨#[13, 10]⟩ : ByteArray)).size + a0_1.size ≤ 9223372036854775807
  ·rw [if_pos c4] at H
   have c4b0 := eq_true c4
   have c4b1 : decide ((t502 ++ (⟨#[13, 10]⟩ : ByteArray)).size + a0_1.size ≤ 9223372036854775807) = true := decide_eq_true c4
   try have c4b2 : (9223372036854775807 < (t502 ++ (⟨#[13, 10]⟩ : ByteArray)).size + a0_1.size) = False := eq_false (Nat.not_lt.2 c4)
   try (have c4b3 := c4; simp only [ByteArray.size_append, size_lit, ByteArray.size_extract, List.size_toArray, List.length_cons, List.length_nil, Nat.zero_add, Nat.reduceAdd] at c4b3; have c4b4 := eq_false (Nat.not_lt.2 c4b3))
   obtain rfl := Option.some.inj H
   go_enter Tryd.func44, Tryd.ntmps44
   try go_wp2_with (first | ((with_reducible refine gate_dst (N := 1) rfl ?_); refine box_event ?hg (N := 1) ?hd (cs := #[.slice A0_0 l0_0.length c0_0, .string a0_1]) (t := 53) ?hr ?_; (case hd => rfl); (case hg => rfl); (case hr => first | (go_simp; done) | (go_simp; rfl)); intro gb501 hg w5 hbox hb; have n0_ := Aside0.mk (below_step bw hb); have n1_ := Aside0.mk (hbox); have n2_ := Aside0.mk ((by rw [hg]; exact (below_size bw) : w.heap.size ≤ gb501)); have n3_ := Aside0.mk ((by rw [hg]; exact (below_size bw) : w.heap.size ≤ gb501)); clear HB; have HB := n0_; have BK501 := n1_; have GW501 := n2_; have GE501 := n3_; clear n0_ n1_ n2_ n3_; clear hb hbox hg))
   have n0_ := Aside0.mk (blk_drew BK501.out)
   have n1_ := Aside0.mk (below_drew1 HB.out)
   clear BK501
   clear HB
   have BK501 := n0_
   have HB := n1_
   clear n0_ n1_
   refine start_ (n := 8) (S := fun w' => w'.cell? ⟨gb501, 0, none⟩ = some (.slice A0_0 l0_0.length c0_0) ∧ w'.cell? ⟨gb501, 1, none⟩ = some (.string a0_1)) (ds := []) #[false, false, false, false, false, false, false, false] (by kernel_rfl) rfl rfl ⟨(blk_cell BK501.out 0).trans rfl, (blk_cell BK501.out 1).trans rfl⟩ (fun hHeld => ?_); refine with_tabW msg_Message_Text.tab1 msg_Message_Text.bits1 (fun HT_ HW_ => ?_)
   generalize w5.drew = w6 at BK501 HB hHeld ⊢
   refine pure_ (i := 0) (N := some 3) (v := ?_) (a' := ?_) (bitsL 8 1) rfl rfl (any_of HT_.out (by kernel_rfl)) (fun _ _ _ h => h) (Or.inl ⟨by rfl, ?_⟩) ?_ ?_
   rotate_left
   ·intro w'
    go_simp
    with_reducible rfl
   rotate_left
   ·simp only [Act.put, List.setIfInBounds_toArray, List.set_cons_zero, List.set_cons_succ, i64_w, i32_w]
    rfl
   refine pure_ (i := 4) (N := some 7) (v := ?_) (a' := ?_) (bitsL 8 17) rfl rfl (any_of HT_.out (by kernel_rfl)) (fun _ _ _ h => h) (Or.inl ⟨by rfl, ?_⟩) ?_ ?_
   rotate_left
   ·intro w'
    go_simp
    with_reducible rfl
   rotate_left
   ·simp only [Act.put, List.setIfInBounds_toArray, List.set_cons_zero, List.set_cons_succ, i64_w, i32_w]
    rfl
   refine take_ (i := 1) (N := some 4) (v := ?_) (a' := ?_) (bitsL 8 19) rfl rfl (take_ofW HT_.out HW_.out (by kernel_rfl)) (fun _ _ _ h => h) (Or.inl ⟨by rfl, ?_⟩) hHeld ?_ ?_
   rotate_left
   ·rintro w' ⟨s0, s1⟩
    go_simp
    with_reducible rfl
   rotate_left
   ·simp only [Act.put, List.setIfInBounds_toArray, List.set_cons_zero, List.set_cons_succ, i64_w, i32_w]
    rfl
   refine take_ (i := 5) (N := some 8) (v := ?_) (a' := ?_) (bitsL 8 51) rfl rfl (take_ofW HT_.out HW_.out (by kernel_rfl)) (fun _ _ _ h => h) (Or.inl ⟨by rfl, ?_⟩) hHeld ?_ ?_
   rotate_left
   ·rintro w' ⟨s0, s1⟩
    go_simp
    with_reducible rfl
   rotate_left
   ·simp only [Act.put, List.setIfInBounds_toArray, List.set_cons_zero, List.set_cons_succ, i64_w, i32_w]
    rfl
   refine one_ (i := 2) (N := some 5) (bitsL 8 55) rfl rfl (one_of HT_.out (by kernel_rfl)) (by decide) (fun K hK => ?_)
   refine goes_ Tryd.func70 (by kernel_rfl) rfl #[.slice A0_0 l0_0.length c0_0] (by rfl) rfl rfl am ?_
   with_reducible refine (head_Print.calls _ _ l0_0 t502 _ ?side1 ?side2 A2.out).mono ?_
   (case side1 => repeat (first | exact (Kd.C_below HR0_0.out HB.out) | (with_reducible refine Kd.C_alloc ?_ _) | (with_reducible refine Kd.C_drewN ?_ _) | (with_reducible refine Kd.C_drew ?_)))
   (case side2 => exact HC0_0.out)
   rintro e w7 ⟨rfl, hb⟩
   refine ⟨_, rfl, ?_⟩
   have n0_ := Aside0.mk (blk_below (g := gb501) (o := .cells #[.slice A0_0 l0_0.length c0_0, .string a0_1] 53 (0, 0)) bk hb)
   have n1_ := Aside0.mk (below_step bwS hb)
   clear BK501
   clear HB
   have BK501 := n0_
   have HB := n1_
   clear n0_ n1_
   (try clear hb)
   (try clear hb2)
   (try clear hk)
   (try clear hi)
   refine hK.out _ _ ⟨(blk_cell BK501.out 0).trans rfl, (blk_cell BK501.out 1).trans rfl⟩ (fun hHeld => ?_)
   clear hK K
   refine norm_ (a' := ?_) ?_ ?_
   rotate_left
   ·show Act.put _ (some 5) _ = _
    simp only [Act.put, List.setIfInBounds_toArray, List.set_cons_zero, List.set_cons_succ, i64_w, i32_w]
    rfl
   refine pure_ (i := 3) (N := some 6) (v := ?_) (a' := ?_) (bitsL 8 63) rfl rfl (any_of HT_.out (by kernel_rfl)) (fun _ _ _ h => h) (Or.inl ⟨by rfl, ?_⟩) ?_ ?_
   rotate_left
   ·intro w'
    go_simp
    with_reducible rfl
   rotate_left
   ·simp only [Act.put, List.setIfInBounds_toArray, List.set_cons_zero, List.set_cons_succ, i64_w, i32_w]
    rfl
   refine pure_ (i := 6) (N := some 9) (v := ?_) (a' := ?_) (bitsL 8 127) rfl rfl (any_of HT_.out (by kernel_rfl)) (fun _ _ _ h => h) (Or.inl ⟨by rfl, ?_⟩) ?_ ?_
   rotate_left
   ·intro w'
    go_simp
    with_reducible rfl
   rotate_left
   ·simp only [Act.put, List.setIfInBounds_toArray, List.set_cons_zero, List.set_cons_succ, i64_w, i32_w]
    rfl
   refine pure_ (i := 7) (N := some 2) (v := ?_) (a' := ?_) (bitsL 8 255) rfl rfl (any_of HT_.out (by kernel_rfl)) (fun _ _ _ h => h) (Or.inl ⟨by rfl, ?_⟩) ?_ ?_
   rotate_left
   ·intro w'
    go_simp
    with_reducible rfl
   rotate_left
   ·simp only [Act.put, List.setIfInBounds_toArray, List.set_cons_zero, List.set_cons_succ, i64_w, i32_w]
    rfl
   refine done_ (done_of HT_.out (by kernel_rfl)) ?_
   try go_wp2
   go_ret
   exact ⟨by first | rfl | (simp [errW_none, errW_some] <;> rfl) | (simp [*, errW_none, errW_some] <;> rfl), bwS⟩
  ·rw [if_neg c4] at H
   exact absurd H (by simp)
 ·rw [if_neg c3] at H
  exact absurd H (by simp)

end Go.Proofs.YtbjbpgmjijeppaaDoor.Fn
namespace Go.Proofs.YtbjbpgmjijeppaaDoor.Fn
open Go.RowKit Go.Proofs.YtbjbpgmjijeppaaDoorW.PrintWords Go.Proofs.YtbjbpgmjijeppaaDoorW.PrintLast Go.Proofs.YtbjbpgmjijeppaaDoorW.PrintMore
attribute [local go_sem] max2_int min2_int max_two min_two max_three min_three max_four min_four
set_option linter.unusedVariables false
set_option linter.unusedSimpArgs false

/-! ### head_named: function 103 -/
def head_named.l0 : Nat → ByteArray → Int → Int → Option (Bool)
 | 0, _, _, _ => none
 | k + 1, x0, x6, x7 => if x7 < x6 then (if 0 ≤ x7 then (if x7 < (x0.size : Int) then (if (bt x0 x7) ≤ 32 then (some false) else (if (bt x0 x7) > 126 then (some false) else (if (bt x0 x7) = 58 then (some false) else (head_named.l0 k x0 x6 (wrap64 (x7 + 1)))))) else (none)) else (none)) else (if x0.toList = ([] : List UInt8) then (some false) else (some (decide ((x0.size : Int) ≤ 76))))
def head_named.f (k : Nat) (a0 : ByteArray) : Option (Bool) := head_named.l0 k a0 (a0.size : Int) 0
theorem head_named.mono_l : ∀ k, (∀ y0 y1 y2, LeO (head_named.l0 k y0 y1 y2) (head_named.l0 (k + 1) y0 y1 y2))
 | 0 => fun _ _ _ r h => by simp [head_named.l0] at h
 | k + 1 => by
  have ih0 := head_named.mono_l k
  ·intro y0 y1 y2
   unfold head_named.l0
   repeat' first
   | (with_reducible exact ih0 _ _ _)
   | (with_reducible exact LeO.refl _)
   | (with_reducible exact LeO.none _)
   | (with_reducible refine LeO.ite ?_ ?_)
   | (with_reducible refine LeO.bind ?_ (fun _ => ?_))
   | exact ih0 _ _ _
   | exact LeO.none _
   | refine LeO.ite ?_ ?_
   | refine LeO.bind ?_ (fun _ => ?_)
theorem head_named.mono : ∀ a0 k, LeO (head_named.f k a0) (head_named.f (k + 1) a0) := by
 intro a0 k
 have ih0 := head_named.mono_l k
 unfold head_named.f
 repeat' first
   | (with_reducible exact ih0 _ _ _)
   | (with_reducible exact LeO.refl _)
   | (with_reducible exact LeO.none _)
   | (with_reducible refine LeO.ite ?_ ?_)
   | (with_reducible refine LeO.bind ?_ (fun _ => ?_))
   | exact ih0 _ _ _
   | exact LeO.none _
   | refine LeO.ite ?_ ?_
   | refine LeO.bind ?_ (fun _ => ?_)
set_option maxHeartbeats 8000000 in
set_option maxRecDepth 100000 in
theorem head_named.calls (k : Nat) (a0 : ByteArray) (r : Bool) (w : World) (h : head_named.f k a0 = some r) :
  Calls Tryd.prog 103 #[.string a0] w fun e w' => e = .returned (.bool r) ∧ Drawn0 w w' := by
 have H : (head_named.l0 k a0 (a0.size : Int) 0) = some r := h
 clear h
 have H' := Aside0.mk H
 clear H
 go_enter Tryd.func103, Tryd.ntmps103
 go_wp2
 go_loopg [7] k (fun kq v7 w' => ∃ (x7_1 : Int), v7 = .int .i64 x7_1 ∧ Aside0 (head_named.l0 kq a0 (a0.size : Int) x7_1 = some r) ∧ Aside0 (kq ≤ k) ∧ Drawn0 w w')
 case atStart => exact ⟨(0), cl, H', ⟨Nat.le_refl _⟩, by repeat (first | exact Drawn0.refl _ | apply Drawn0.step)⟩
 case round =>
  clear H'
  try clear c1
  obtain ⟨x7_1, rfl, HA, HK1, ⟨m1, rfl⟩⟩ := hrel
  cases gk with
  | zero => exact absurd HA.out (by simp [head_named.l0])
  | succ k1 =>
   have H := HA.out
   clear HA
   simp only [head_named.l0] at H
   by_cases c2 : x7_1 < (a0.size : Int)
   ·rw [if_pos c2] at H
    have c2b0 : decide (x7_1 < (a0.size : Int)) = true := decide_eq_true c2
    clear c2
    by_cases c3 : 0 ≤ x7_1
    ·rw [if_pos c3] at H
     have c3b0 : decide (0 ≤ x7_1) = true := decide_eq_true c3
     clear c3
     by_cases c4 : x7_1 < (a0.size : Int)
     ·rw [if_pos c4] at H
      have c4b0 : decide (x7_1 < (a0.size : Int)) = true := decide_eq_true c4
      clear c4
      by_cases c6 : (bt a0 x7_1) ≤ 32
      ·rw [if_pos c6] at H
       have c6b0 : decide ((bt a0 x7_1) ≤ 32) = true := decide_eq_true c6
       clear c6
       obtain rfl := Option.some.inj H
       have p5 : 0 ≤ (x7_1 : Int) := od
       have q5 : x7_1 < (a0.size : Int) := od
       have hx5 := bt_at a0 x7_1
       replace p5 := eq_true p5
       replace q5 := eq_true q5
       go_wp2
       go_ret
       exact ⟨by first | rfl | (simp; done) | (simp [*]; done) | (simp [nil_ne]; done), by repeat (first | exact Drawn0.refl _ | apply Drawn0.step)⟩
      ·rw [if_neg c6] at H
       have c6b0 : decide ((bt a0 x7_1) ≤ 32) = false := decide_eq_false c6
       clear c6
       by_cases c7 : (bt a0 x7_1) > 126
       ·rw [if_pos c7] at H
        have c7b0 : decide (126 < (bt a0 x7_1)) = true := decide_eq_true c7
        clear c7
        obtain rfl := Option.some.inj H
        have p5 : 0 ≤ (x7_1 : Int) := od
        have q5 : x7_1 < (a0.size : Int) := od
        have hx5 := bt_at a0 x7_1
        replace p5 := eq_true p5
        replace q5 := eq_true q5
        go_wp2
        go_ret
        exact ⟨by first | rfl | (simp; done) | (simp [*]; done) | (simp [nil_ne]; done), by repeat (first | exact Drawn0.refl _ | apply Drawn0.step)⟩
       ·rw [if_neg c7] at H
        have c7b0 : decide (126 < (bt a0 x7_1)) = false := decide_eq_false c7
        clear c7
        by_cases c8 : (bt a0 x7_1) = 58
        ·rw [if_pos c8] at H
         have c8b0 : ((bt a0 x7_1) == 58) = true := beq_iff_eq.mpr c8
         have c8b1 : ((bt a0 x7_1) != 58) = false := bne_eq_false_iff_eq.mpr c8
         clear c8
         obtain rfl := Option.some.inj H
         have p5 : 0 ≤ (x7_1 : Int) := od
         have q5 : x7_1 < (a0.size : Int) := od
         have hx5 := bt_at a0 x7_1
         replace p5 := eq_true p5
         replace q5 := eq_true q5
         go_wp2
         go_ret
         exact ⟨by first | rfl | (simp; done) | (simp [*]; done) | (simp [nil_ne]; done), by repeat (first | exact Drawn0.refl _ | apply Drawn0.step)⟩
        ·rw [if_neg c8] at H
         have c8b0 : ((bt a0 x7_1) == 58) = false := beq_eq_false_iff_ne.mpr c8
         have c8b1 : ((bt a0 x7_1) != 58) = true := bne_iff_ne.mpr c8
         have H' := Aside0.mk H
         clear H
         have p5 : 0 ≤ (x7_1 : Int) := od
         have q5 : x7_1 < (a0.size : Int) := od
         have hx5 := bt_at a0 x7_1
         replace p5 := eq_true p5
         replace q5 := eq_true q5
         go_wp2
         go_roundg k1
         case measure => have := HK1.out; omega
         case rel => exact ⟨(wrap64 (x7_1 + 1)), cl, H', ⟨by have := HK1.out; omega⟩, by repeat (first | exact Drawn0.refl _ | apply Drawn0.step)⟩
     ·rw [if_neg c4] at H
      exact absurd H (by simp)
    ·rw [if_neg c3] at H
     exact absurd H (by simp)
   ·rw [if_neg c2] at H
    have c2b0 : decide (x7_1 < (a0.size : Int)) = false := decide_eq_false c2
    clear c2
    by_cases c9 : a0.toList = ([] : List UInt8)
    ·rw [if_pos c9] at H
     have c9b0 : (a0.toList == ([] : List UInt8)) = true := beq_iff_eq.mpr c9
     have c9b1 : (a0.toList != ([] : List UInt8)) = false := bne_eq_false_iff_eq.mpr c9
     clear c9
     obtain rfl := Option.some.inj H
     go_wp2
     go_ret
     exact ⟨by first | rfl | (simp; done) | (simp [*]; done) | (simp [nil_ne]; done), by repeat (first | exact Drawn0.refl _ | apply Drawn0.step)⟩
    ·rw [if_neg c9] at H
     have c9b0 : (a0.toList == ([] : List UInt8)) = false := beq_eq_false_iff_ne.mpr c9
     have c9b1 : (a0.toList != ([] : List UInt8)) = true := bne_iff_ne.mpr c9
     obtain rfl := Option.some.inj H
     go_wp2
     go_ret
     exact ⟨by first | rfl | (simp; done) | (simp [*]; done) | (simp [nil_ne]; done), by repeat (first | exact Drawn0.refl _ | apply Drawn0.step)⟩

end Go.Proofs.YtbjbpgmjijeppaaDoor.Fn
namespace Go.Proofs.YtbjbpgmjijeppaaDoor.Fn
open Go.RowKit Go.Proofs.YtbjbpgmjijeppaaDoorW.PrintWords Go.Proofs.YtbjbpgmjijeppaaDoorW.PrintLast Go.Proofs.YtbjbpgmjijeppaaDoorW.PrintMore
attribute [local go_sem] max2_int min2_int max_two min_two max_three min_three max_four min_four
set_option linter.unusedVariables false
set_option linter.unusedSimpArgs false

/-! ### head_text: function 101 -/
def head_text.l0 : Nat → ByteArray → Int → Int → Option (Bool)
 | 0, _, _, _ => none
 | k + 1, x0, x6, x7 => if x7 < x6 then (if 0 ≤ x7 then (if x7 < (x0.size : Int) then (if (bt x0 x7) < 32 then (if (bt x0 x7) = 9 then (if (bt x0 x7) = 127 then (some false) else (head_text.l0 k x0 x6 (wrap64 (x7 + 1)))) else (some false)) else (if (bt x0 x7) = 127 then (some false) else (head_text.l0 k x0 x6 (wrap64 (x7 + 1))))) else (none)) else (none)) else (some true)
def head_text.f (k : Nat) (a0 : ByteArray) : Option (Bool) := head_text.l0 k a0 (a0.size : Int) 0
theorem head_text.mono_l : ∀ k, (∀ y0 y1 y2, LeO (head_text.l0 k y0 y1 y2) (head_text.l0 (k + 1) y0 y1 y2))
 | 0 => fun _ _ _ r h => by simp [head_text.l0] at h
 | k + 1 => by
  have ih0 := head_text.mono_l k
  ·intro y0 y1 y2
   unfold head_text.l0
   repeat' first
   | (with_reducible exact ih0 _ _ _)
   | (with_reducible exact LeO.refl _)
   | (with_reducible exact LeO.none _)
   | (with_reducible refine LeO.ite ?_ ?_)
   | (with_reducible refine LeO.bind ?_ (fun _ => ?_))
   | exact ih0 _ _ _
   | exact LeO.none _
   | refine LeO.ite ?_ ?_
   | refine LeO.bind ?_ (fun _ => ?_)
theorem head_text.mono : ∀ a0 k, LeO (head_text.f k a0) (head_text.f (k + 1) a0) := by
 intro a0 k
 have ih0 := head_text.mono_l k
 unfold head_text.f
 repeat' first
   | (with_reducible exact ih0 _ _ _)
   | (with_reducible exact LeO.refl _)
   | (with_reducible exact LeO.none _)
   | (with_reducible refine LeO.ite ?_ ?_)
   | (with_reducible refine LeO.bind ?_ (fun _ => ?_))
   | exact ih0 _ _ _
   | exact LeO.none _
   | refine LeO.ite ?_ ?_
   | refine LeO.bind ?_ (fun _ => ?_)
set_option maxHeartbeats 8000000 in
set_option maxRecDepth 100000 in
theorem head_text.calls (k : Nat) (a0 : ByteArray) (r : Bool) (w : World) (h : head_text.f k a0 = some r) :
  Calls Tryd.prog 101 #[.string a0] w fun e w' => e = .returned (.bool r) ∧ Drawn0 w w' := by
 have H : (head_text.l0 k a0 (a0.size : Int) 0) = some r := h
 clear h
 have H' := Aside0.mk H
 clear H
 go_enter Tryd.func101, Tryd.ntmps101
 go_wp2
 go_loopg [7] k (fun kq v7 w' => ∃ (x7_1 : Int), v7 = .int .i64 x7_1 ∧ Aside0 (head_text.l0 kq a0 (a0.size : Int) x7_1 = some r) ∧ Aside0 (kq ≤ k) ∧ Drawn0 w w')
 case atStart => exact ⟨(0), cl, H', ⟨Nat.le_refl _⟩, by repeat (first | exact Drawn0.refl _ | apply Drawn0.step)⟩
 case round =>
  clear H'
  try clear c1
  obtain ⟨x7_1, rfl, HA, HK1, ⟨m1, rfl⟩⟩ := hrel
  cases gk with
  | zero => exact absurd HA.out (by simp [head_text.l0])
  | succ k1 =>
   have H := HA.out
   clear HA
   simp only [head_text.l0] at H
   by_cases c2 : x7_1 < (a0.size : Int)
   ·rw [if_pos c2] at H
    have c2b0 : decide (x7_1 < (a0.size : Int)) = true := decide_eq_true c2
    clear c2
    by_cases c3 : 0 ≤ x7_1
    ·rw [if_pos c3] at H
     have c3b0 : decide (0 ≤ x7_1) = true := decide_eq_true c3
     clear c3
     by_cases c4 : x7_1 < (a0.size : Int)
     ·rw [if_pos c4] at H
      have c4b0 : decide (x7_1 < (a0.size : Int)) = true := decide_eq_true c4
      clear c4
      by_cases c6 : (bt a0 x7_1) < 32
      ·rw [if_pos c6] at H
       have c6b0 : decide ((bt a0 x7_1) < 32) = true := decide_eq_true c6
       clear c6
       by_cases c7 : (bt a0 x7_1) = 9
       ·rw [if_pos c7] at H
        have c7b0 : ((bt a0 x7_1) == 9) = true := beq_iff_eq.mpr c7
        have c7b1 : ((bt a0 x7_1) != 9) = false := bne_eq_false_iff_eq.mpr c7
        clear c7
        by_cases c8 : (bt a0 x7_1) = 127
        ·rw [if_pos c8] at H
         have c8b0 : ((bt a0 x7_1) == 127) = true := beq_iff_eq.mpr c8
         have c8b1 : ((bt a0 x7_1) != 127) = false := bne_eq_false_iff_eq.mpr c8
         clear c8
         obtain rfl := Option.some.inj H
         have p5 : 0 ≤ (x7_1 : Int) := od
         have q5 : x7_1 < (a0.size : Int) := od
         have hx5 := bt_at a0 x7_1
         replace p5 := eq_true p5
         replace q5 := eq_true q5
         go_wp2
         go_ret
         exact ⟨by first | rfl | (simp; done) | (simp [*]; done) | (simp [nil_ne]; done), by repeat (first | exact Drawn0.refl _ | apply Drawn0.step)⟩
        ·rw [if_neg c8] at H
         have c8b0 : ((bt a0 x7_1) == 127) = false := beq_eq_false_iff_ne.mpr c8
         have c8b1 : ((bt a0 x7_1) != 127) = true := bne_iff_ne.mpr c8
         have H' := Aside0.mk H
         clear H
         have p5 : 0 ≤ (x7_1 : Int) := od
         have q5 : x7_1 < (a0.size : Int) := od
         have hx5 := bt_at a0 x7_1
         replace p5 := eq_true p5
         replace q5 := eq_true q5
         go_wp2
         go_roundg k1
         case measure => have := HK1.out; omega
         case rel => exact ⟨(wrap64 (x7_1 + 1)), cl, H', ⟨by have := HK1.out; omega⟩, by repeat (first | exact Drawn0.refl _ | apply Drawn0.step)⟩
       ·rw [if_neg c7] at H
        have c7b0 : ((bt a0 x7_1) == 9) = false := beq_eq_false_iff_ne.mpr c7
        have c7b1 : ((bt a0 x7_1) != 9) = true := bne_iff_ne.mpr c7
        obtain rfl := Option.some.inj H
        have p5 : 0 ≤ (x7_1 : Int) := od
        have q5 : x7_1 < (a0.size : Int) := od
        have hx5 := bt_at a0 x7_1
        replace p5 := eq_true p5
        replace q5 := eq_true q5
        go_wp2
        go_ret
        exact ⟨by first | rfl | (simp; done) | (simp [*]; done) | (simp [nil_ne]; done), by repeat (first | exact Drawn0.refl _ | apply Drawn0.step)⟩
      ·rw [if_neg c6] at H
       have c6b0 : decide ((bt a0 x7_1) < 32) = false := decide_eq_false c6
       clear c6
       by_cases c9 : (bt a0 x7_1) = 127
       ·rw [if_pos c9] at H
        have c9b0 : ((bt a0 x7_1) == 127) = true := beq_iff_eq.mpr c9
        have c9b1 : ((bt a0 x7_1) != 127) = false := bne_eq_false_iff_eq.mpr c9
        clear c9
        obtain rfl := Option.some.inj H
        have p5 : 0 ≤ (x7_1 : Int) := od
        have q5 : x7_1 < (a0.size : Int) := od
        have hx5 := bt_at a0 x7_1
        replace p5 := eq_true p5
        replace q5 := eq_true q5
        go_wp2
        go_ret
        exact ⟨by first | rfl | (simp; done) | (simp [*]; done) | (simp [nil_ne]; done), by repeat (first | exact Drawn0.refl _ | apply Drawn0.step)⟩
       ·rw [if_neg c9] at H
        have c9b0 : ((bt a0 x7_1) == 127) = false := beq_eq_false_iff_ne.mpr c9
        have c9b1 : ((bt a0 x7_1) != 127) = true := bne_iff_ne.mpr c9
        have H' := Aside0.mk H
        clear H
        have p5 : 0 ≤ (x7_1 : Int) := od
        have q5 : x7_1 < (a0.size : Int) := od
        have hx5 := bt_at a0 x7_1
        replace p5 := eq_true p5
        replace q5 := eq_true q5
        go_wp2
        go_roundg k1
        case measure => have := HK1.out; omega
        case rel => exact ⟨(wrap64 (x7_1 + 1)), cl, H', ⟨by have := HK1.out; omega⟩, by repeat (first | exact Drawn0.refl _ | apply Drawn0.step)⟩
     ·rw [if_neg c4] at H
      exact absurd H (by simp)
    ·rw [if_neg c3] at H
     exact absurd H (by simp)
   ·rw [if_neg c2] at H
    have c2b0 : decide (x7_1 < (a0.size : Int)) = false := decide_eq_false c2
    clear c2
    obtain rfl := Option.some.inj H
    go_wp2
    go_ret
    exact ⟨by first | rfl | (simp; done) | (simp [*]; done) | (simp [nil_ne]; done), by repeat (first | exact Drawn0.refl _ | apply Drawn0.step)⟩

end Go.Proofs.YtbjbpgmjijeppaaDoor.Fn
namespace Go.Proofs.YtbjbpgmjijeppaaDoor.Fn
open Go.RowKit Go.Proofs.YtbjbpgmjijeppaaDoorW.PrintWords Go.Proofs.YtbjbpgmjijeppaaDoorW.PrintLast Go.Proofs.YtbjbpgmjijeppaaDoorW.PrintMore
attribute [local go_sem] max2_int min2_int max_two min_two max_three min_three max_four min_four
set_option linter.unusedVariables false
set_option linter.unusedSimpArgs false

/-! ### head_white: function 102 -/
def head_white.f (a0 : ByteArray) : Option (Bool) := if a0.toList = ([] : List UInt8) then (some false) else (if 0 < (a0.size : Int) then (if (bt a0 0) = 32 then (some true) else (some ((bt a0 0) == 9))) else (none))
set_option maxHeartbeats 8000000 in
set_option maxRecDepth 100000 in
theorem head_white.calls (a0 : ByteArray) (r : Bool) (w : World) (h : head_white.f a0 = some r) :
  Calls Tryd.prog 102 #[.string a0] w fun e w' => e = .returned (.bool r) ∧ Drawn0 w w' := by
 have H : (if a0.toList = ([] : List UInt8) then (some false) else (if 0 < (a0.size : Int) then (if (bt a0 0) = 32 then (some true) else (some ((bt a0 0) == 9))) else (none))) = some r := h
 clear h
 by_cases c2 : a0.toList = ([] : List UInt8)
 ·rw [if_pos c2] at H
  have c2b0 : (a0.toList == ([] : List UInt8)) = true := beq_iff_eq.mpr c2
  have c2b1 : (a0.toList != ([] : List UInt8)) = false := bne_eq_false_iff_eq.mpr c2
  clear c2
  obtain rfl := Option.some.inj H
  go_enter Tryd.func102, Tryd.ntmps102
  go_wp2
  go_ret
  exact ⟨by first | rfl | (simp; done) | (simp [*]; done) | (simp [nil_ne]; done), by repeat (first | exact Drawn0.refl _ | apply Drawn0.step)⟩
 ·rw [if_neg c2] at H
  have c2b0 : (a0.toList == ([] : List UInt8)) = false := beq_eq_false_iff_ne.mpr c2
  have c2b1 : (a0.toList != ([] : List UInt8)) = true := bne_iff_ne.mpr c2
  by_cases c3 : 0 < (a0.size : Int)
  ·rw [if_pos c3] at H
   have c3b0 : decide (0 < (a0.size : Int)) = true := decide_eq_true c3
   have c3b1 : decide (0 < a0.size) = true := decide_eq_true (by omega)
   clear c3
   by_cases c5 : (bt a0 0) = 32
   ·rw [if_pos c5] at H
    have c5b0 : ((bt a0 0) == 32) = true := beq_iff_eq.mpr c5
    have c5b1 : ((bt a0 0) != 32) = false := bne_eq_false_iff_eq.mpr c5
    clear c5
    obtain rfl := Option.some.inj H
    have p4 : 0 ≤ (0 : Int) := (by omega)
    have q4 : 0 < a0.size := (by have : (0 : Int) < (a0.size : Int) := od; omega)
    have hx4 : ∀ h : 0 < a0.size, ((a0[0]'h).toNat : Int) = bt a0 0 := bt_at a0 0
    clear p4
    have qi4 : (0 < (a0.size : Int)) = True := eq_true (od)
    replace q4 := eq_true q4
    go_enter Tryd.func102, Tryd.ntmps102
    go_wp2
    go_ret
    exact ⟨by first | rfl | (simp; done) | (simp [*]; done) | (simp [nil_ne]; done), by repeat (first | exact Drawn0.refl _ | apply Drawn0.step)⟩
   ·rw [if_neg c5] at H
    have c5b0 : ((bt a0 0) == 32) = false := beq_eq_false_iff_ne.mpr c5
    have c5b1 : ((bt a0 0) != 32) = true := bne_iff_ne.mpr c5
    obtain rfl := Option.some.inj H
    have p4 : 0 ≤ (0 : Int) := (by omega)
    have q4 : 0 < a0.size := (by have : (0 : Int) < (a0.size : Int) := od; omega)
    have hx4 : ∀ h : 0 < a0.size, ((a0[0]'h).toNat : Int) = bt a0 0 := bt_at a0 0
    clear p4
    have qi4 : (0 < (a0.size : Int)) = True := eq_true (od)
    replace q4 := eq_true q4
    have p6 : 0 ≤ (0 : Int) := (by omega)
    have q6 : 0 < a0.size := (by have : (0 : Int) < (a0.size : Int) := od; omega)
    have hx6 : ∀ h : 0 < a0.size, ((a0[0]'h).toNat : Int) = bt a0 0 := bt_at a0 0
    clear p6
    have qi6 : (0 < (a0.size : Int)) = True := eq_true (od)
    replace q6 := eq_true q6
    go_enter Tryd.func102, Tryd.ntmps102
    go_wp2
    go_ret
    exact ⟨by first | rfl | (simp; done) | (simp [*]; done) | (simp [nil_ne]; done), by repeat (first | exact Drawn0.refl _ | apply Drawn0.step)⟩
  ·rw [if_neg c3] at H
   exact absurd H (by simp)

end Go.Proofs.YtbjbpgmjijeppaaDoor.Fn
namespace Go.Proofs.YtbjbpgmjijeppaaDoor.Fn
open Go.RowKit Go.Proofs.YtbjbpgmjijeppaaDoorW.PrintWords Go.Proofs.YtbjbpgmjijeppaaDoorW.PrintLast Go.Proofs.YtbjbpgmjijeppaaDoorW.PrintMore
attribute [local go_sem] max2_int min2_int max_two min_two max_three min_three max_four min_four
set_option linter.unusedVariables false
set_option linter.unusedSimpArgs false

/-! ### head_grow: function 87 -/
mutual
def head_grow.j0 : Nat → List (S126) → ByteArray → Bool → Option ((List (S126)) × Int)
 | 0, _, _, _ => none
 | k + 1, x0, x1, x13 => if x13 = true then (some (([] : List (S126)), 150)) else ((head_white.f x1).bind fun t452 => (if t452 = true then (if 0 ≤ (wrap64 ((x0.length : Int) - 1)) then (if (wrap64 ((x0.length : Int) - 1)) < (x0.length : Int) then (if ((rd_T126 x0 (wrap64 ((x0.length : Int) - 1))).f1).size + x1.size ≤ 9223372036854775807 then (some ((x0.set ((wrap64 ((x0.length : Int) - 1)) : Int).toNat (⟨(rd_T126 x0 (wrap64 ((x0.length : Int) - 1))).f0, ((rd_T126 x0 (wrap64 ((x0.length : Int) - 1))).f1) ++ x1⟩ : S126)), 0)) else (none)) else (none)) else (none)) else ((strings_Cut.f x1 (⟨#[58]⟩ : ByteArray)).bind fun bt455 => (if bt455.2.2 = true then ((head_named.f k bt455.1).bind fun t458 => (head_grow.j1 k x0 bt455.1 bt455.2.1 (!t458))) else (head_grow.j1 k x0 bt455.1 bt455.2.1 true)))))
def head_grow.j1 : Nat → List (S126) → ByteArray → ByteArray → Bool → Option ((List (S126)) × Int)
 | 0, _, _, _, _ => none
 | k + 1, x0, x6, x7, x47 => if x47 = true then (some (([] : List (S126)), 150)) else (if (x0.length : Int) = 100 then (some (([] : List (S126)), 8)) else (if x0.length < 4398046511104 then (some ((x0 ++ [(⟨x6, x7⟩ : S126)]), 0)) else (none)))
end
def head_grow.f (k : Nat) (l0 : List (S126)) (a1 : ByteArray) : Option ((List (S126)) × Int) := if (a1.size : Int) > 998 then (some (([] : List (S126)), 2)) else ((head_text.f k a1).bind fun t450 => (if t450 = true then ((head_white.f a1).bind fun t451 => (if t451 = true then (head_grow.j0 k l0 a1 ((l0.length : Int) == 0)) else (head_grow.j0 k l0 a1 false))) else (head_grow.j0 k l0 a1 true)))
theorem head_grow.mono_l : ∀ k, (∀ y0 y1 y2, LeO (head_grow.j0 k y0 y1 y2) (head_grow.j0 (k + 1) y0 y1 y2)) ∧ (∀ y0 y1 y2 y3, LeO (head_grow.j1 k y0 y1 y2 y3) (head_grow.j1 (k + 1) y0 y1 y2 y3))
 | 0 => ⟨fun _ _ _ r h => by simp [head_grow.j0] at h, fun _ _ _ _ r h => by simp [head_grow.j1] at h⟩
 | k + 1 => by
  obtain ⟨ih0, ih1⟩ := head_grow.mono_l k
  refine ⟨?_, ?_⟩
  ·intro y0 y1 y2
   unfold head_grow.j0
   repeat' first
   | (with_reducible exact ih0 _ _ _)
   | (with_reducible exact ih1 _ _ _ _)
   | (with_reducible exact head_named.mono _ _)
   | (with_reducible exact head_text.mono _ _)
   | (with_reducible exact LeO.refl _)
   | (with_reducible exact LeO.none _)
   | (with_reducible refine LeO.ite ?_ ?_)
   | (with_reducible refine LeO.bind ?_ (fun _ => ?_))
   | exact ih0 _ _ _
   | exact ih1 _ _ _ _
   | exact head_named.mono _ _
   | exact head_text.mono _ _
   | exact LeO.none _
   | refine LeO.ite ?_ ?_
   | refine LeO.bind ?_ (fun _ => ?_)
  ·intro y0 y1 y2 y3
   unfold head_grow.j1
   repeat' first
   | (with_reducible exact ih0 _ _ _)
   | (with_reducible exact ih1 _ _ _ _)
   | (with_reducible exact head_named.mono _ _)
   | (with_reducible exact head_text.mono _ _)
   | (with_reducible exact LeO.refl _)
   | (with_reducible exact LeO.none _)
   | (with_reducible refine LeO.ite ?_ ?_)
   | (with_reducible refine LeO.bind ?_ (fun _ => ?_))
   | exact ih0 _ _ _
   | exact ih1 _ _ _ _
   | exact head_named.mono _ _
   | exact head_text.mono _ _
   | exact LeO.none _
   | refine LeO.ite ?_ ?_
   | refine LeO.bind ?_ (fun _ => ?_)
theorem head_grow.mono : ∀ a0 a1 k, LeO (head_grow.f k a0 a1) (head_grow.f (k + 1) a0 a1) := by
 intro a0 a1 k
 obtain ⟨ih0, ih1⟩ := head_grow.mono_l k
 unfold head_grow.f
 repeat' first
   | (with_reducible exact ih0 _ _ _)
   | (with_reducible exact ih1 _ _ _ _)
   | (with_reducible exact head_named.mono _ _)
   | (with_reducible exact head_text.mono _ _)
   | (with_reducible exact LeO.refl _)
   | (with_reducible exact LeO.none _)
   | (with_reducible refine LeO.ite ?_ ?_)
   | (with_reducible refine LeO.bind ?_ (fun _ => ?_))
   | exact ih0 _ _ _
   | exact ih1 _ _ _ _
   | exact head_named.mono _ _
   | exact head_text.mono _ _
   | exact LeO.none _
   | refine LeO.ite ?_ ?_
   | refine LeO.bind ?_ (fun _ => ?_)
set_option maxHeartbeats 8000000 in
set_option maxRecDepth 100000 in
theorem head_grow.calls (k : Nat) (P0_ : Nat → Prop) (u9000_ : Value) (l0 : List (S126)) (a1 : ByteArray) (r1 : List (S126)) (r2 : Int) (w0 w : World) (hG : Glob w0) (hB : Below w0.heap.size w0 w) (ho0 : Kd.R k126 126 w w0.heap.size P0_ u9000_ l0) (h : head_grow.f k l0 a1 = some (r1, r2)) :
  Calls Tryd.prog 87 #[u9000_, .string a1] w fun e w' => ∃ v0_ : Value, e = .returned (.tuple #[v0_, .int .i64 r2]) ∧ Kd.R k126 126 w' w0.heap.size (fun k_ => (P0_ k_ ∨ w.heap.size ≤ k_)) v0_ r1 ∧ Below w0.heap.size w0 w' ∧ Kept w w' (fun k_ => P0_ k_) := by
 have hu126 := Tryd.underlying126
 have HO0 := Aside0.mk (show Kd.R k126 126 w w0.heap.size (fun k_ => (P0_ k_ ∨ w.heap.size ≤ k_)) u9000_ l0 from Kd.R_mono ho0 (fun k_ hk => (.inl hk)))
 have HK := Aside0.mk (Kept.refl w (fun k_ => P0_ k_))
 have HW0 := Aside0.mk hB.size
 have HB := Aside0.mk hB
 clear hB
 have H : (if (a1.size : Int) > 998 then (some (([] : List (S126)), 2)) else ((head_text.f k a1).bind fun t450 => (if t450 = true then ((head_white.f a1).bind fun t451 => (if t451 = true then (head_grow.j0 k l0 a1 ((l0.length : Int) == 0)) else (head_grow.j0 k l0 a1 false))) else (head_grow.j0 k l0 a1 true)))) = some (r1, r2) := h
 clear h
 by_cases c3 : (a1.size : Int) > 998
 ·rw [if_pos c3] at H
  have c3b0 : decide (998 < (a1.size : Int)) = true := decide_eq_true c3
  have c3b1 : decide (998 < a1.size) = true := decide_eq_true (by omega)
  clear c3
  simp only [Option.some.injEq, Prod.mk.injEq] at H
  obtain ⟨rfl, rfl⟩ := H
  go_enter Tryd.func87, Tryd.ntmps87
  go_wp2
  go_ret2
  exact ⟨_, by first | rfl | (simp [errW_none, errW_some] <;> rfl) | (simp [*, errW_none, errW_some] <;> rfl), by first | exact Kd.R_nil _ _ _ _ _ | exact Kd.N_nil _ _ _ _ _ | exact Kd.V_nil _ _ _ _ _ | exact Kd.Q_nil _ _ _ _ _ | exact Kd.S_nil _ _ _ _ _, bw, by repeat (first | (with_reducible first | exact HK.out | apply Kept.alloc | apply Kept.drewN | apply Kept.drew) | exact HK.out)⟩
 ·rw [if_neg c3] at H
  have c3b0 : decide (998 < (a1.size : Int)) = false := decide_eq_false c3
  have c3b1 : decide (998 < a1.size) = false := decide_eq_false (by omega)
  clear c3
  have HC4 := Aside0.mk H
  clear H
  go_enter Tryd.func87, Tryd.ntmps87
  go_upto_region 3 with (fail)
  go_cut [13] (fun v13 wc => ∃ (kq : Nat) (x13_3 : Bool), v13 = .bool x13_3 ∧ Aside0 (head_grow.j0 kq l0 a1 x13_3 = some (r1, r2)) ∧ Aside0 (kq ≤ k) ∧ Aside0 (Kd.R k126 126 wc w0.heap.size (fun k_ => (P0_ k_ ∨ w.heap.size ≤ k_)) u9000_ l0) ∧ Aside0 (Kept w wc (fun k_ => P0_ k_)) ∧ Aside0 (Below w0.heap.size w0 wc))
  case first =>
   have H := HC4.out
   clear HC4
   replace H := Option.bind_eq_some_iff.mp H
   obtain ⟨t450, A50, H⟩ := H
   replace H : (if t450 = true then ((head_white.f a1).bind fun t451 => (if t451 = true then (head_grow.j0 k l0 a1 ((l0.length : Int) == 0)) else (head_grow.j0 k l0 a1 false))) else (head_grow.j0 k l0 a1 true)) = some (r1, r2) := H
   have A5 := Aside0.mk A50
   clear A50
   by_cases c6 : t450 = true
   ·subst c6
    have H1 : ((head_white.f a1).bind fun t451 => (if t451 = true then (head_grow.j0 k l0 a1 ((l0.length : Int) == 0)) else (head_grow.j0 k l0 a1 false))) = some (r1, r2) := by rw [if_pos rfl] at H; exact H
    clear H
    have H := H1
    clear H1
    replace H := Option.bind_eq_some_iff.mp H
    obtain ⟨t451, A70, H⟩ := H
    replace H : (if t451 = true then (head_grow.j0 k l0 a1 ((l0.length : Int) == 0)) else (head_grow.j0 k l0 a1 false)) = some (r1, r2) := H
    have A7 := Aside0.mk A70
    clear A70
    by_cases c8 : t451 = true
    ·subst c8
     have H1 : (head_grow.j0 k l0 a1 ((l0.length : Int) == 0)) = some (r1, r2) := by rw [if_pos rfl] at H; exact H
     clear H
     have H := H1
     clear H1
     have H' := Aside0.mk H
     clear H
     go_wp2_with (first | ((with_reducible refine gate_callee (f := 101) rfl ?_); refine goesL_ (some 15) rfl rfl Tryd.func101 (by kernel_rfl) rfl #[.string a1] rfl am ?_; (with_reducible refine (head_text.calls k a1 true _ A5.out).mono ?_); rintro e w' ⟨rfl, ⟨nd, rfl⟩⟩; refine ⟨_, rfl, ?_⟩) | (go_at_call 102; (with_reducible refine (head_white.calls a1 true _ A7.out).mono ?_); rintro e w' ⟨rfl, ⟨nd, rfl⟩⟩; obtain ⟨Ao9, co9, eo9⟩ := Kd.R_slice HO0.out; subst eo9))
     go_meet
     case rel => exact ⟨_, (((l0.length : Int) == 0)), cl, H', ⟨by first | omega | exact Nat.le_refl _⟩, ⟨by (with_reducible repeat (first | apply Kd.R_alloc | apply Kd.R_drewN | apply Kd.R_drew)); exact HO0.out⟩, ⟨by repeat (first | (with_reducible first | exact HK.out | apply Kept.alloc | apply Kept.drewN | apply Kept.drew) | exact HK.out)⟩, ⟨bw⟩⟩
    ·replace c8 := Bool.eq_false_iff.mpr c8
     subst c8
     have H1 : (head_grow.j0 k l0 a1 false) = some (r1, r2) := by rw [if_neg (show ¬ (false = true) by decide)] at H; exact H
     clear H
     have H := H1
     clear H1
     have H' := Aside0.mk H
     clear H
     go_wp2_with (first | ((with_reducible refine gate_callee (f := 101) rfl ?_); refine goesL_ (some 15) rfl rfl Tryd.func101 (by kernel_rfl) rfl #[.string a1] rfl am ?_; (with_reducible refine (head_text.calls k a1 true _ A5.out).mono ?_); rintro e w' ⟨rfl, ⟨nd, rfl⟩⟩; refine ⟨_, rfl, ?_⟩) | (go_at_call 102; (with_reducible refine (head_white.calls a1 false _ A7.out).mono ?_); rintro e w' ⟨rfl, ⟨nd, rfl⟩⟩))
     go_meet
     case rel => exact ⟨_, (false), cl, H', ⟨by first | omega | exact Nat.le_refl _⟩, ⟨by (with_reducible repeat (first | apply Kd.R_alloc | apply Kd.R_drewN | apply Kd.R_drew)); exact HO0.out⟩, ⟨by repeat (first | (with_reducible first | exact HK.out | apply Kept.alloc | apply Kept.drewN | apply Kept.drew) | exact HK.out)⟩, ⟨bw⟩⟩
   ·replace c6 := Bool.eq_false_iff.mpr c6
    subst c6
    have H1 : (head_grow.j0 k l0 a1 true) = some (r1, r2) := by rw [if_neg (show ¬ (false = true) by decide)] at H; exact H
    clear H
    have H := H1
    clear H1
    have H' := Aside0.mk H
    clear H
    go_wp2_with (first | ((with_reducible refine gate_callee (f := 101) rfl ?_); refine goesL_ (some 15) rfl rfl Tryd.func101 (by kernel_rfl) rfl #[.string a1] rfl am ?_; (with_reducible refine (head_text.calls k a1 false _ A5.out).mono ?_); rintro e w' ⟨rfl, ⟨nd, rfl⟩⟩; refine ⟨_, rfl, ?_⟩))
    go_meet
    case rel => exact ⟨_, (true), cl, H', ⟨by first | omega | exact Nat.le_refl _⟩, ⟨by (with_reducible repeat (first | apply Kd.R_alloc | apply Kd.R_drewN | apply Kd.R_drew)); exact HO0.out⟩, ⟨by repeat (first | (with_reducible first | exact HK.out | apply Kept.alloc | apply Kept.drewN | apply Kept.drew) | exact HK.out)⟩, ⟨bw⟩⟩
  case rest =>
   clear HC4
   try clear c1
   try clear p2
   try clear c3
   try clear c3b0
   try clear c3b1
   try clear c6
   try clear c8
   obtain ⟨kq, x13_3, rfl, HA, HJ3, HO_0, HK, HB⟩ := hcut
   cases kq with
   | zero => exact absurd HA.out (by simp [head_grow.j0])
   | succ kj3 =>
    have H := HA.out
    clear HA
    simp only [head_grow.j0] at H
    by_cases c10 : x13_3 = true
    ·subst c10
     have H1 : (some (([] : List (S126)), 150)) = some (r1, r2) := by rw [if_pos rfl] at H; exact H
     clear H
     have H := H1
     clear H1
     simp only [Option.some.injEq, Prod.mk.injEq] at H
     obtain ⟨rfl, rfl⟩ := H
     go_wp2
     go_ret2
     exact ⟨_, by first | rfl | (simp [errW_none, errW_some] <;> rfl) | (simp [*, errW_none, errW_some] <;> rfl), by first | exact Kd.R_nil _ _ _ _ _ | exact Kd.N_nil _ _ _ _ _ | exact Kd.V_nil _ _ _ _ _ | exact Kd.Q_nil _ _ _ _ _ | exact Kd.S_nil _ _ _ _ _, bw, by repeat (first | (with_reducible first | exact HK.out | apply Kept.alloc | apply Kept.drewN | apply Kept.drew) | exact HK.out)⟩
    ·replace c10 := Bool.eq_false_iff.mpr c10
     subst c10
     have H1 : ((head_white.f a1).bind fun t452 => (if t452 = true then (if 0 ≤ (wrap64 ((l0.length : Int) - 1)) then (if (wrap64 ((l0.length : Int) - 1)) < (l0.length : Int) then (if ((rd_T126 l0 (wrap64 ((l0.length : Int) - 1))).f1).size + a1.size ≤ 9223372036854775807 then (some ((l0.set ((wrap64 ((l0.length : Int) - 1)) : Int).toNat (⟨(rd_T126 l0 (wrap64 ((l0.length : Int) - 1))).f0, ((rd_T126 l0 (wrap64 ((l0.length : Int) - 1))).f1) ++ a1⟩ : S126)), 0)) else (none)) else (none)) else (none)) else ((strings_Cut.f a1 (⟨#[58]⟩ : ByteArray)).bind fun bt455 => (if bt455.2.2 = true then ((head_named.f kj3 bt455.1).bind fun t458 => (head_grow.j1 kj3 l0 bt455.1 bt455.2.1 (!t458))) else (head_grow.j1 kj3 l0 bt455.1 bt455.2.1 true))))) = some (r1, r2) := by rw [if_neg (show ¬ (false = true) by decide)] at H; exact H
     clear H
     have H := H1
     clear H1
     replace H := Option.bind_eq_some_iff.mp H
     obtain ⟨t452, A110, H⟩ := H
     replace H : (if t452 = true then (if 0 ≤ (wrap64 ((l0.length : Int) - 1)) then (if (wrap64 ((l0.length : Int) - 1)) < (l0.length : Int) then (if ((rd_T126 l0 (wrap64 ((l0.length : Int) - 1))).f1).size + a1.size ≤ 9223372036854775807 then (some ((l0.set ((wrap64 ((l0.length : Int) - 1)) : Int).toNat (⟨(rd_T126 l0 (wrap64 ((l0.length : Int) - 1))).f0, ((rd_T126 l0 (wrap64 ((l0.length : Int) - 1))).f1) ++ a1⟩ : S126)), 0)) else (none)) else (none)) else (none)) else ((strings_Cut.f a1 (⟨#[58]⟩ : ByteArray)).bind fun bt455 => (if bt455.2.2 = true then ((head_named.f kj3 bt455.1).bind fun t458 => (head_grow.j1 kj3 l0 bt455.1 bt455.2.1 (!t458))) else (head_grow.j1 kj3 l0 bt455.1 bt455.2.1 true)))) = some (r1, r2) := H
     have A11 := Aside0.mk A110
     clear A110
     by_cases c12 : t452 = true
     ·subst c12
      have H1 : (if 0 ≤ (wrap64 ((l0.length : Int) - 1)) then (if (wrap64 ((l0.length : Int) - 1)) < (l0.length : Int) then (if ((rd_T126 l0 (wrap64 ((l0.length : Int) - 1))).f1).size + a1.size ≤ 9223372036854775807 then (some ((l0.set ((wrap64 ((l0.length : Int) - 1)) : Int).toNat (⟨(rd_T126 l0 (wrap64 ((l0.length : Int) - 1))).f0, ((rd_T126 l0 (wrap64 ((l0.length : Int) - 1))).f1) ++ a1⟩ : S126)), 0)) else (none)) else (none)) else (none)) = some (r1, r2) := by rw [if_pos rfl] at H; exact H
      clear H
      have H := H1
      clear H1
      obtain ⟨ji13, hji13⟩ : ∃ j_ : Int, (wrap64 ((l0.length : Int) - 1)) = j_ := ⟨_, rfl⟩
      replace H : (if 0 ≤ (ji13) then (if (ji13) < (l0.length : Int) then (if ((rd_T126 l0 (ji13)).f1).size + a1.size ≤ 9223372036854775807 then (some ((l0.set ((ji13) : Int).toNat (⟨(rd_T126 l0 (ji13)).f0, ((rd_T126 l0 (ji13)).f1) ++ a1⟩ : S126)), 0)) else (none)) else (none)) else (none)) = some (r1, r2) := by first | (rw [hji13] at H; exact H) | (simp only [hji13] at H ⊢; exact H)
      (try rw [hji13] at A11)
      have hji13w : (IntKind.i64.wrap ((l0.length : Int) - 1)) = ji13 := (i64_w _).trans hji13
      by_cases c14 : 0 ≤ (ji13)
      ·rw [if_pos c14] at H
       have c14b0 : decide (0 ≤ (ji13)) = true := decide_eq_true c14
       clear c14
       by_cases c15 : (ji13) < (l0.length : Int)
       ·rw [if_pos c15] at H
        have c15b0 : decide ((ji13) < (l0.length : Int)) = true := decide_eq_true c15
        clear c15
        by_cases c16 : ((rd_T126 l0 (ji13)).f1).size + a1.size ≤ 9223372036854775807
        ·rw [if_pos c16] at H
         have c16b0 := eq_true c16
         have c16b1 : decide (((rd_T126 l0 (ji13)).f1).size + a1.size ≤ 9223372036854775807) = true := decide_eq_true c16
         try have c16b2 : (9223372036854775807 < ((rd_T126 l0 (ji13)).f1).size + a1.size) = False := eq_false (Nat.not_lt.2 c16)
         obtain ⟨y454, hy454⟩ : ∃ y_ : List (S126), y_ = (l0.set ((ji13) : Int).toNat (⟨(rd_T126 l0 (ji13)).f0, ((rd_T126 l0 (ji13)).f1) ++ a1⟩ : S126)) := ⟨_, rfl⟩
         replace H : (some (y454, 0)) = some (r1, r2) := by first | (rw [hy454]; with_reducible exact H) | (have H2_ := (Option.bind_some _ _).symm.trans H; rw [hy454]; with_reducible exact H2_) | (have H2_ := (Option.bind_some _ _).symm.trans H; with_reducible exact H2_) | with_reducible exact H | (rw [hy454]; exact H) | exact H
         have Ny454 := Aside0.mk hy454
         clear hy454
         simp only [Option.some.injEq, Prod.mk.injEq] at H
         obtain ⟨rfl, rfl⟩ := H
         go_wp2_with (first | ((with_reducible refine gate_callee (f := 102) rfl ?_); refine goesL_ (some 28) rfl rfl Tryd.func102 (by kernel_rfl) rfl #[.string a1] rfl am ?_; (with_reducible refine (head_white.calls a1 true _ A11.out).mono ?_); rintro e w' ⟨rfl, ⟨nd, rfl⟩⟩; refine ⟨_, rfl, ?_⟩; (try (rw [drewN_self wc]; generalize hq_ : World.drewN wc _ = wc; have n0_ : Aside0 (Kd.R k126 126 wc w0.heap.size (fun k_ => (P0_ k_ ∨ w.heap.size ≤ k_)) u9000_ l0) := ⟨by rw [← hq_]; exact (by (with_reducible repeat (first | apply Kd.R_alloc | apply Kd.R_drewN | apply Kd.R_drew)); exact HO_0.out)⟩; have n1_ : Aside0 (Kept w wc (fun k_ => P0_ k_)) := ⟨by rw [← hq_]; exact (by repeat (first | (with_reducible first | exact HK.out | apply Kept.alloc | apply Kept.drewN | apply Kept.drew) | exact HK.out))⟩; have n2_ : Aside0 (Below w0.heap.size w0 wc) := ⟨by rw [← hq_]; exact bw⟩; clear HO_0 HK HB hq_; have HO_0 := n0_; have HK := n1_; have HB := n2_; clear n0_ n1_ n2_)); obtain ⟨Ao18, co18, eo18⟩ := Kd.R_slice HO_0.out; subst eo18; have p453 : 0 ≤ ((ji13) : Int) := od; have q453 : (ji13) < (l0.length : Int) := od; obtain ⟨ad453, e453, hx453_0, hx453_1⟩ := at_T126 (Kd.R_reads' HO_0.out).2.2 (ji13) p453 q453; cases e453; replace p453 := eq_true p453; replace q453 := eq_true q453; have p17 : 0 ≤ ((ji13) : Int) := od; have q17 : ((ji13) : Int) < ((l0.length : Int) : Int) := od; obtain ⟨go17, co17, eo17, gb17, gl17, cl17, HG17⟩ := Kd.R_form HO_0.out (by omega); (first | cases eo17 | (injection eo17 with ea_ en_ ec_; (first | subst ea_ | (injection ea_ with ea_; subst ea_)); subst ec_; clear en_)); have GB17 := Aside0.mk gb17; have GG17 := Aside0.mk HG17; clear gb17 gl17 HG17; have HMgo17 := Aside0.mk (show (P0_ go17 ∨ w.heap.size ≤ go17) from (HO_0.out.1 _ rfl)); (first | simp only [add_plain] at hx453_0 | skip); (first | simp only [add_plain] at hx453_1 | skip); obtain ⟨ce17, hcl17, hM17, hcc17, hfr17⟩ := Kd.R_elem HO_0.out z126 ((ji13) : Int) p17 q17; obtain rfl := k126_openM hM17; have hx17_0 : wc.cell? ⟨go17, ((ji13) : Int).toNat * 2, none⟩ = some (.string ((rd_T126 l0 (ji13)).f0)) := hcc17 0 _ rfl; have hx17_1 : wc.cell? ⟨go17, ((ji13) : Int).toNat * 2 + 1, none⟩ = some (.string ((rd_T126 l0 (ji13)).f1)) := hcc17 1 _ rfl; have hf17_0 : wc.frozen? ⟨go17, ((ji13) : Int).toNat * 2, none⟩ = false := hfr17 0; have hf17_1 : wc.frozen? ⟨go17, ((ji13) : Int).toNat * 2 + 1, none⟩ = false := hfr17 1; clear hcl17 hcc17 hfr17 hM17; replace p17 := eq_true p17; replace q17 := eq_true q17; have HX19 := Aside0.mk (show Kd.R k126 126 wc w0.heap.size (fun k_ => (P0_ k_ ∨ w.heap.size ≤ k_)) (.slice (some ⟨go17, 0, none⟩) l0.length co18) l0 from (by (with_reducible repeat (first | apply Kd.R_alloc | apply Kd.R_drewN | apply Kd.R_drew)); exact HO_0.out)); obtain ⟨ce19, hcl19, hM19, hcc19, hfr19⟩ := Kd.R_elem HX19.out z126 ((ji13) : Int) (od) (by have h_ : ((ji13) : Int) < ((l0.length : Int) : Int) := od; first | exact h_ | (have e_ := (Kd.R_reads' HO_0.out).1; omega) | simpa using h_); obtain rfl := k126_openM hM19; have HP19 := Kd.R_seg HX19.out ((ji13) : Int) (od) (by have h_ : ((ji13) : Int) < ((l0.length : Int) : Int) := od; first | exact h_ | (have e_ := (Kd.R_reads' HO_0.out).1; omega) | simpa using h_) (seg := [.string (((rd_T126 l0 (ji13)).f1) ++ a1)]) (j := 1) hcl19 hcc19 (show 2 ≤ 2 from by decide) (x' := (⟨(rd_T126 l0 (ji13)).f0, ((rd_T126 l0 (ji13)).f1) ++ a1⟩ : S126)) (k126_mkM _ _ _ (⟨(rd_T126 l0 (ji13)).f0, ((rd_T126 l0 (ji13)).f1) ++ a1⟩ : S126) ) (fun _ hk => hk); have hx19_1 := hcc19 1 _ rfl; (try simp only [show (k126).sz = 2 from rfl, Nat.mul_one, Nat.add_zero] at hx19_1); have hf19_1 := hfr19 1; (try simp only [show (k126).sz = 2 from rfl, Nat.mul_one, Nat.add_zero] at hf19_1); clear hcl19 hcc19 hfr19 hM19) | ((with_reducible refine gate_store (t := 9) (p := 39) rfl ?_); refine store_event (t := 9) (p := 39) (v := ?vo_w20) (w1 := (wc.setCell ⟨go17, ((ji13) : Int).toNat * 2 + 1, none⟩ (.string (((rd_T126 l0 (ji13)).f1) ++ a1)))) ?hg ?ho ?hn ?hr ?_; (case ho => rfl); (case hg => rfl); (case hn => rfl); (case hr => first | (go_simp; done) | (go_simp; rfl)); intro w20 hw; have hg : wc.grownBy w20 (some go17) := (by rw [hw]; exact HP19.2); have hp_ : Kd.R k126 126 w20 w0.heap.size (fun k_ => (P0_ k_ ∨ w.heap.size ≤ k_)) (.slice (some ⟨go17, 0, none⟩) l0.length co18) y454 := (by rw [hw, Ny454.out]; exact HP19.1); clear HP19; have n0_ := Aside0.mk (hp_); have n1_ := Aside0.mk ((by rw [hw]; exact below_set (HB.out) GB17.out : Below w0.heap.size w0 w20)); have n2_ := Aside0.mk (Kept.of_grown (S := (fun k_ => P0_ k_)) hg (by repeat (first | (with_reducible first | exact HK.out | apply Kept.alloc | apply Kept.drewN | apply Kept.drew) | exact HK.out)) (fun k_ e_ => (HO_0.out.1 k_ e_))); clear HO_0; clear HB; clear HK; have HO_0 := n0_; have HB := n1_; have HK := n2_; clear n0_ n1_ n2_; clear hg hw hp_))
         go_ret2
         exact ⟨_, by first | rfl | (simp [errW_none, errW_some] <;> rfl) | (simp only [← hji13]; first | rfl | (simp [errW_none, errW_some] <;> rfl)) | (simp [*, errW_none, errW_some] <;> rfl), by (with_reducible repeat (first | apply Kd.R_alloc | apply Kd.R_drewN | apply Kd.R_drew)); exact HO_0.out, bw, by repeat (first | (with_reducible first | exact HK.out | apply Kept.alloc | apply Kept.drewN | apply Kept.drew) | exact HK.out)⟩
        ·rw [if_neg c16] at H
         exact absurd H (by simp)
       ·rw [if_neg c15] at H
        exact absurd H (by simp)
      ·rw [if_neg c14] at H
       exact absurd H (by simp)
     ·replace c12 := Bool.eq_false_iff.mpr c12
      subst c12
      have H1 : ((strings_Cut.f a1 (⟨#[58]⟩ : ByteArray)).bind fun bt455 => (if bt455.2.2 = true then ((head_named.f kj3 bt455.1).bind fun t458 => (head_grow.j1 kj3 l0 bt455.1 bt455.2.1 (!t458))) else (head_grow.j1 kj3 l0 bt455.1 bt455.2.1 true))) = some (r1, r2) := by rw [if_neg (show ¬ (false = true) by decide)] at H; exact H
      clear H
      have H := H1
      clear H1
      replace H := Option.bind_eq_some_iff.mp H
      obtain ⟨⟨t455, t456, t457⟩, A210, H⟩ := H
      replace H : (if t457 = true then ((head_named.f kj3 t455).bind fun t458 => (head_grow.j1 kj3 l0 t455 t456 (!t458))) else (head_grow.j1 kj3 l0 t455 t456 true)) = some (r1, r2) := H
      have A21 := Aside0.mk A210
      clear A210
      have HC22 := Aside0.mk H
      clear H
      go_upto_region 9 with (first | ((with_reducible refine gate_callee (f := 102) rfl ?_); refine goesL_ (some 28) rfl rfl Tryd.func102 (by kernel_rfl) rfl #[.string a1] rfl am ?_; (with_reducible refine (head_white.calls a1 false _ A11.out).mono ?_); rintro e w' ⟨rfl, ⟨nd, rfl⟩⟩; refine ⟨_, rfl, ?_⟩) | ((with_reducible refine gate_callee (f := 45) rfl ?_); refine goesL_ (some 43) rfl rfl Tryd.func45 (by kernel_rfl) rfl #[.string a1, .string (⟨#[58]⟩ : ByteArray)] rfl am ?_; (with_reducible refine (strings_Cut.calls (hG := by first | exact hG | exact Glob.below hG (by first | exact HB.out | (repeat (first | (with_reducible first | exact HB.out | apply below_alloc | apply pw_below_drewN | apply below_drew1) | exact HB.out))) | exact Glob.drawn hG (by repeat (first | exact Drawn0.refl _ | apply Drawn0.step))) a1 (⟨#[58]⟩ : ByteArray) t455 t456 t457 _ A21.out).mono ?_); rintro e w23 ⟨rfl, hb⟩; refine ⟨_, rfl, ?_⟩; have n0_ := Aside0.mk (Kd.R_below (by (with_reducible repeat (first | apply Kd.R_alloc | apply Kd.R_drewN | apply Kd.R_drew)); exact HO_0.out) hb); have n1_ := Aside0.mk (Kept.below (S := (fun k_ => P0_ k_)) (by repeat (first | (with_reducible first | exact HK.out | apply Kept.alloc | apply Kept.drewN | apply Kept.drew) | exact HK.out)) hb); have n2_ := Aside0.mk (below_step bw hb); clear HO_0; clear HK; clear HB; have HO_0 := n0_; have HK := n1_; have HB := n2_; clear n0_ n1_ n2_; (try clear hb); (try clear hb2); (try clear hk); (try clear hi)))
      (try simp only [Act.put, List.setIfInBounds_toArray, List.set_cons_zero, List.set_cons_succ])
      go_cut [47] (fun v47 wc => ∃ (kq : Nat) (x47_21 : Bool), v47 = .bool x47_21 ∧ Aside0 (head_grow.j1 kq l0 t455 t456 x47_21 = some (r1, r2)) ∧ Aside0 (kq ≤ kj3) ∧ Aside0 (Kd.R k126 126 wc w0.heap.size (fun k_ => (P0_ k_ ∨ w.heap.size ≤ k_)) u9000_ l0) ∧ Aside0 (Kept w wc (fun k_ => P0_ k_)) ∧ Aside0 (Below w0.heap.size w0 wc))
      case first =>
       have H := HC22.out
       clear HC22
       by_cases c24 : t457 = true
       ·subst c24
        have H1 : ((head_named.f kj3 t455).bind fun t458 => (head_grow.j1 kj3 l0 t455 t456 (!t458))) = some (r1, r2) := by rw [if_pos rfl] at H; exact H
        clear H
        have H := H1
        clear H1
        replace H := Option.bind_eq_some_iff.mp H
        obtain ⟨t458, A250, H⟩ := H
        replace H : (head_grow.j1 kj3 l0 t455 t456 (!t458)) = some (r1, r2) := H
        have A25 := Aside0.mk A250
        clear A250
        have H' := Aside0.mk H
        clear H
        go_wp2_with (first | (go_at_call 103; (with_reducible refine (head_named.calls kj3 t455 t458 _ A25.out).mono ?_); rintro e w' ⟨rfl, ⟨nd, rfl⟩⟩))
        go_meet
        case rel => exact ⟨_, (!t458), cl, H', ⟨by have := HJ3.out; first | omega | exact Nat.le_refl _⟩, ⟨by (with_reducible repeat (first | apply Kd.R_alloc | apply Kd.R_drewN | apply Kd.R_drew)); exact HO_0.out⟩, ⟨by repeat (first | (with_reducible first | exact HK.out | apply Kept.alloc | apply Kept.drewN | apply Kept.drew) | exact HK.out)⟩, ⟨bw⟩⟩
       ·replace c24 := Bool.eq_false_iff.mpr c24
        subst c24
        have H1 : (head_grow.j1 kj3 l0 t455 t456 true) = some (r1, r2) := by rw [if_neg (show ¬ (false = true) by decide)] at H; exact H
        clear H
        have H := H1
        clear H1
        have H' := Aside0.mk H
        clear H
        go_wp2
        go_meet
        case rel => exact ⟨_, (true), cl, H', ⟨by have := HJ3.out; first | omega | exact Nat.le_refl _⟩, ⟨by (with_reducible repeat (first | apply Kd.R_alloc | apply Kd.R_drewN | apply Kd.R_drew)); exact HO_0.out⟩, ⟨by repeat (first | (with_reducible first | exact HK.out | apply Kept.alloc | apply Kept.drewN | apply Kept.drew) | exact HK.out)⟩, ⟨bw⟩⟩
      case rest =>
       clear HC22
       try clear c1
       try clear p1
       try clear q1
       try clear hx1
       try clear c2
       try clear p2
       try clear c3
       try clear c3b0
       try clear c3b1
       try clear c4
       try clear p4
       try clear q4
       try clear hx4
       try clear c6
       try clear p6
       try clear c8
       try clear c10
       try clear c12
       try clear c14
       try clear c14b0
       try clear c15
       try clear c15b0
       try clear c16
       try clear c16b0
       try clear c16b1
       try clear c16b2
       try clear c17
       try clear p17
       try clear q17
       try clear hx17
       try clear hf17
       try clear c19
       try clear hx19
       try clear hf19
       try clear c24
       try clear hx17_0
       try clear hx17_1
       try clear hx19_1
       try clear hx453_0
       try clear hx453_1
       try clear p17
       try clear p2
       try clear p453
       try clear q17
       try clear q453
       obtain ⟨kq, x47_21, rfl, HA, HJ21, HO_0, HK, HB⟩ := hcut
       cases kq with
       | zero => exact absurd HA.out (by simp [head_grow.j1])
       | succ kj21 =>
        have H := HA.out
        clear HA
        simp only [head_grow.j1] at H
        by_cases c26 : x47_21 = true
        ·subst c26
         have H1 : (some (([] : List (S126)), 150)) = some (r1, r2) := by rw [if_pos rfl] at H; exact H
         clear H
         have H := H1
         clear H1
         simp only [Option.some.injEq, Prod.mk.injEq] at H
         obtain ⟨rfl, rfl⟩ := H
         go_wp2
         go_ret2
         exact ⟨_, by first | rfl | (simp [errW_none, errW_some] <;> rfl) | (simp [*, errW_none, errW_some] <;> rfl), by first | exact Kd.R_nil _ _ _ _ _ | exact Kd.N_nil _ _ _ _ _ | exact Kd.V_nil _ _ _ _ _ | exact Kd.Q_nil _ _ _ _ _ | exact Kd.S_nil _ _ _ _ _, bw, by repeat (first | (with_reducible first | exact HK.out | apply Kept.alloc | apply Kept.drewN | apply Kept.drew) | exact HK.out)⟩
        ·replace c26 := Bool.eq_false_iff.mpr c26
         subst c26
         have H1 : (if (l0.length : Int) = 100 then (some (([] : List (S126)), 8)) else (if l0.length < 4398046511104 then (some ((l0 ++ [(⟨t455, t456⟩ : S126)]), 0)) else (none))) = some (r1, r2) := by rw [if_neg (show ¬ (false = true) by decide)] at H; exact H
         clear H
         have H := H1
         clear H1
         by_cases c27 : (l0.length : Int) = 100
         ·rw [if_pos c27] at H
          have c27b0 : ((l0.length : Int) == 100) = true := beq_iff_eq.mpr c27
          have c27b1 : ((l0.length : Int) != 100) = false := bne_eq_false_iff_eq.mpr c27
          clear c27
          simp only [Option.some.injEq, Prod.mk.injEq] at H
          obtain ⟨rfl, rfl⟩ := H
          obtain ⟨Ao28, co28, eo28⟩ := Kd.R_slice HO_0.out
          subst eo28
          go_wp2
          go_ret2
          exact ⟨_, by first | rfl | (simp [errW_none, errW_some] <;> rfl) | (simp [*, errW_none, errW_some] <;> rfl), by first | exact Kd.R_nil _ _ _ _ _ | exact Kd.N_nil _ _ _ _ _ | exact Kd.V_nil _ _ _ _ _ | exact Kd.Q_nil _ _ _ _ _ | exact Kd.S_nil _ _ _ _ _, bw, by repeat (first | (with_reducible first | exact HK.out | apply Kept.alloc | apply Kept.drewN | apply Kept.drew) | exact HK.out)⟩
         ·rw [if_neg c27] at H
          have c27b0 : ((l0.length : Int) == 100) = false := beq_eq_false_iff_ne.mpr c27
          have c27b1 : ((l0.length : Int) != 100) = true := bne_iff_ne.mpr c27
          by_cases c29 : l0.length < 4398046511104
          ·rw [if_pos c29] at H
           have LMc29 := Aside0.mk c29
           clear c29
           obtain ⟨y459, hy459⟩ : ∃ y_ : List (S126), y_ = (l0 ++ [(⟨t455, t456⟩ : S126)]) := ⟨_, rfl⟩
           replace H : (some (y459, 0)) = some (r1, r2) := by first | (rw [hy459]; with_reducible exact H) | (have H2_ := (Option.bind_some _ _).symm.trans H; rw [hy459]; with_reducible exact H2_) | (have H2_ := (Option.bind_some _ _).symm.trans H; with_reducible exact H2_) | with_reducible exact H | (rw [hy459]; exact H) | exact H
           have Ny459 := Aside0.mk hy459
           clear hy459
           simp only [Option.some.injEq, Prod.mk.injEq] at H
           obtain ⟨rfl, rfl⟩ := H
           obtain ⟨Ao30, co30, eo30⟩ := Kd.R_slice HO_0.out
           subst eo30
           go_wp2_with (first | ((with_reducible refine gate_builtin (b := .append) (xs := #[.tmp 59, .tmp 63]) rfl ?_); (try (refine gate_guard (by rfl) ?_; dsimp only)); at_builtin; refine Kd.R_append k126 (w0 := w0) w0.heap.size rfl (.tmp 59) (.tmp 63) 51 126 (.agg #[(.string ⟨#[]⟩), (.string ⟨#[]⟩)]) 32 rfl Tryd.underlying51 info126 rfl (by decide) (by omega) (.slice Ao30 l0.length co30) l0 (⟨t455, t456⟩ : S126) [.string t455, .string t456] (fun k_ => (P0_ k_ ∨ w.heap.size ≤ k_)) (fun _ => False) rfl rfl ?aP (fun _ hk => hk.elim) ?aF ?aO ?aB ?aS ?aL ?_; (case aP => exact k126_mkM _ _ _ (⟨t455, t456⟩ : S126)); (case aB => exact bw); (case aF => exact (fun k_ hk => (.inr (Nat.le_trans (by first | exact HK.out.1 | exact (show Kept w _ (fun k_ => P0_ k_) from by repeat (first | (with_reducible first | exact HK.out | apply Kept.alloc | apply Kept.drewN | apply Kept.drew) | exact HK.out)).1) hk)))); (case aO => exact (by (with_reducible repeat (first | apply Kd.R_alloc | apply Kd.R_drewN | apply Kd.R_drew)); exact HO_0.out)); (case aS => exact (below_size bw)); (case aL => have := LMc29.out; omega); intro v460 w31 ho hb hg hat; rw [← Ny459.out] at ho; have n0_ := Aside0.mk (hb); have n1_ := Aside0.mk (Kept.of_grown (S := (fun k_ => P0_ k_)) hg (by repeat (first | (with_reducible first | exact HK.out | apply Kept.alloc | apply Kept.drewN | apply Kept.drew) | exact HK.out)) (fun k_ e_ => (HO_0.out.1 k_ e_))); have n2_ := Aside0.mk (ho); clear HB; clear HK; clear HO_0; have HB := n0_; have HK := n1_; have HO461 := n2_; clear n0_ n1_ n2_; clear ho hb hg hat))
           go_ret2
           exact ⟨_, by first | rfl | (simp [errW_none, errW_some] <;> rfl) | (simp [*, errW_none, errW_some] <;> rfl), by (with_reducible repeat (first | apply Kd.R_alloc | apply Kd.R_drewN | apply Kd.R_drew)); exact HO461.out, bw, by repeat (first | (with_reducible first | exact HK.out | apply Kept.alloc | apply Kept.drewN | apply Kept.drew) | exact HK.out)⟩
          ·rw [if_neg c29] at H
           exact absurd H (by simp)

end Go.Proofs.YtbjbpgmjijeppaaDoor.Fn
set_option linter.unusedVariables false
namespace Go.Proofs.YtbjbpgmjijeppaaDoor.Fn
open Go.RowKit Go.Proofs.YtbjbpgmjijeppaaDoorW.PrintWords

def strings_Trim.f (a0 a1 : ByteArray) : Option ByteArray :=
  if a0.size ≤ 140737488355328 then (if a1.size ≤ 1000 then (if a1.data.toList.all (fun b => decide (b.toNat < 128)) = true then some (Pl.str (Lib.trimS a0.data.toList a1.data.toList)) else none) else none) else none
theorem strings_Trim.calls (a0 a1 r : ByteArray) (w : World) (h : strings_Trim.f a0 a1 = some r) :
    Calls Tryd.prog 104 #[.string a0, .string a1] w fun e w' => e = .returned (.string r) ∧ Below w.heap.size w w' := by
  unfold strings_Trim.f at h
  by_cases hs : a0.size ≤ 140737488355328
  · rw [if_pos hs] at h
    by_cases hc : a1.size ≤ 1000
    · rw [if_pos hc] at h
      by_cases ha : a1.data.toList.all (fun b => decide (b.toNat < 128)) = true
      · rw [if_pos ha] at h
        have HR := Option.some.inj h
        subst HR
        exact Any.strings_Trim_laid Tryd.lays160 (by kernel_rfl) a0 a1 w (by omega) (by omega) (ascii_of_all ha)
      · rw [if_neg ha] at h; exact absurd h (by simp)
    · rw [if_neg hc] at h; exact absurd h (by simp)
  · rw [if_neg hs] at h; exact absurd h (by simp)
end Go.Proofs.YtbjbpgmjijeppaaDoor.Fn
namespace Go.Proofs.YtbjbpgmjijeppaaDoor.Fn
open Go.RowKit Go.Proofs.YtbjbpgmjijeppaaDoorW.PrintWords Go.Proofs.YtbjbpgmjijeppaaDoorW.PrintLast Go.Proofs.YtbjbpgmjijeppaaDoorW.PrintMore
attribute [local go_sem] max2_int min2_int max_two min_two max_three min_three max_four min_four
set_option linter.unusedVariables false
set_option linter.unusedSimpArgs false

/-! ### head_trim: function 88 -/
def head_trim.f (a0 : ByteArray) : Option (ByteArray) := (strings_Trim.f a0 (⟨#[32, 9]⟩ : ByteArray)).bind fun t464 => (some t464)
set_option maxHeartbeats 8000000 in
set_option maxRecDepth 100000 in
theorem head_trim.calls (a0 : ByteArray) (r : ByteArray) (w : World) (h : head_trim.f a0 = some r) :
  Calls Tryd.prog 88 #[.string a0] w fun e w' => e = .returned (.string r) ∧ Below w.heap.size w w' := by
 have HB := Aside0.mk (Below.refl w.heap.size w)
 have H : ((strings_Trim.f a0 (⟨#[32, 9]⟩ : ByteArray)).bind fun t464 => (some t464)) = some r := h
 clear h
 replace H := Option.bind_eq_some_iff.mp H
 obtain ⟨t464, A20, H⟩ := H
 replace H : (some t464) = some r := H
 have A2 := Aside0.mk A20
 clear A20
 obtain rfl := Option.some.inj H
 go_enter Tryd.func88, Tryd.ntmps88
 go_wp2_with (first | ((with_reducible refine gate_callee (f := 104) rfl ?_); refine goesL_ (some 4) rfl rfl Tryd.func104 (by kernel_rfl) rfl #[.string a0, .string (⟨#[32, 9]⟩ : ByteArray)] rfl am ?_; (with_reducible refine (strings_Trim.calls a0 (⟨#[32, 9]⟩ : ByteArray) t464 _ A2.out).mono ?_); rintro e w3 ⟨rfl, hb⟩; refine ⟨_, rfl, ?_⟩; have n0_ := Aside0.mk (below_step bw hb); clear HB; have HB := n0_; clear n0_; (try clear hb); (try clear hb2); (try clear hk); (try clear hi)))
 go_ret
 exact ⟨by first | rfl | (simp [errW_none, errW_some] <;> rfl) | (simp [*, errW_none, errW_some] <;> rfl), bw⟩

end Go.Proofs.YtbjbpgmjijeppaaDoor.Fn
