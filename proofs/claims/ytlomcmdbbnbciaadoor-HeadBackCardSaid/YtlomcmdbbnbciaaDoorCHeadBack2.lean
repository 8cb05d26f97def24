/- The law bulletinlaw15.HeadBack returns true for every input: fields that are right are read, as they are, of what is printed of them, whatever body stands behind the empty line, and without that line there is no body; the tables of unicode/utf8 are as the program's text lays them. -/
import Derived.Test.YtlomcmdbbnbciaaDoorCHeadBack1
import Derived.Deep.SlicePairs
import Derived.ProofKit
import Derived.OpenShut
import Derived.Test.YtlomcmdbbnbciaaDoorRows
import Derived.Test.YtlomcmdbbnbciaaDoorTie
import Derived.Test.YtlomcmdbbnbciaaDoorCards
import Derived.WalkKit
import Derived.ShutString
import Derived.ChangeOld
import Derived.Below
import Derived.SizedLaws
import Derived.Lib.SmallJoins
import Derived.SevenTiedAt
set_option linter.unusedVariables false
set_option linter.unusedSimpArgs false
namespace Go.Proofs.YtlomcmdbbnbciaaDoor.Pl
def findCrlf (t : ByteArray) : Int := Lib.index t.data.toList [13, 10]
def linesL (s : ByteArray) : List ByteArray := Fn.cuts findCrlf 2 s
def fitsL (x : ByteArray) : Bool := decide (x.size ≤ 998)
def rightL (n v : Bytes) : Bool := named n && (textual v && (decide (trim v = v) && (linesL (str (showL n v))).all fitsL))
end Go.Proofs.YtlomcmdbbnbciaaDoor.Pl
namespace Go.Proofs.YtlomcmdbbnbciaaDoor.Fn
open Go.RowKit Go.Shelf Go.Proofs.YtlomcmdbbnbciaaDoorW.PrintWords Go.Proofs.YtlomcmdbbnbciaaDoorW.PrintLast Go.Proofs.YtlomcmdbbnbciaaDoorW.PrintMore

def head_Right.f (a0 a1 : ByteArray) : Option Bool := if a0.size ≤ 1000000 then (if a1.size ≤ 1000000 then some (Pl.rightL (Pl.bs a0) (Pl.bs a1)) else none) else none

theorem finds_crlf : Finds Pl.findCrlf 2 := ⟨by omega, fun s h => by
  have h1 := Lib.index_room s.data.toList [13, 10] h
  have h2 : s.data.toList.length = s.size := Pl.data_length s
  have h3 : ([13, 10] : List UInt8).length = 2 := rfl
  have h4 : (Pl.findCrlf s) = Lib.index s.data.toList [13, 10] := rfl
  omega⟩
theorem split_gives_crlf (n : Nat) (hn : 1 ≤ n) (bs : Nat) (s : ByteArray) (hs : s.size < 4294967281) (w : World) (hG : Glob w) (hb : 2 < bs) (hw : bs + 3 ≤ w.heap.size) (h : SplitBoxes bs s ⟨#[13, 10]⟩ w) :
    SplitGives n bs (fun b => b = 2 ∨ (bs ≤ b ∧ b ≤ bs + 2)) (Pl.linesL s) w := by
  obtain ⟨m, hm⟩ := hG.max
  refine split_gives n hn bs _ (fun b h1 h2 => .inr ⟨h1, h2⟩) s ⟨#[13, 10]⟩ Pl.findCrlf finds_crlf (show 2 < 4611686018427387904 by decide) (by omega) w (fun b hb => by rcases hb with rfl | hb <;> omega) (fun t W ht hk => ?_) h.text h.free h.sep h.zero
  have hb2 := hk 2 (.inl rfl) (by omega)
  have hm2 : W.cell? ⟨2, 0, none⟩ = some (.int .i64 m) := (World.cell?_of_block hb2).trans hm
  exact Tryd.strings_Index t ⟨#[13, 10]⟩ m W (by omega) hm2

def onlyN (J : Act → World → Prop) : Exit → Act → World → Prop
  | .normal, a, w => J a w
  | _, _, _ => False
attribute [local go_sem] max2_int min2_int max_two min_two max_three min_three max_four min_four
attribute [local go_sem] Oper.semAt_some
def right1.f (k : Nat) (a0_0 : ByteArray) (a0_1 : ByteArray) : Option (Bool) := (head_named.f k a0_0).bind fun t606 => (if t606 = true then ((head_text.f k a0_1).bind fun t607 => (if t607 = true then ((head_trim.f a0_1).bind fun t608 => (if t608.toList = a0_1.toList then (some true) else (some false))) else (some false))) else (some false))
def right1.T1 : Bool × List (List Nat × List Nat) := (true, [([], []), ([0], [0]), ([1], [1]), ([2], [2]), ([3, 2], [3]), ([4], [4]), ([5, 4], [4, 5]), ([6, 4, 4], [4, 6]), ([7, 4], [4, 7]), ([4, 8], [4, 8]), ([9, 7], [9]), ([10], [10]), ([11, 10], [10, 11]), ([12, 10, 10], [10, 12]), ([10], [10]), ([14, 10], [10, 14]), ([13, 15, 10], [10, 13, 15]), ([10, 16], [10, 16])])
def right1.B1 : List Nat := [0, 1, 3, 7, 15, 31, 63, 127, 255, 511, 1023, 2047, 4095, 8191, 2047, 18431, 65535, 131071]
theorem right1.tab1 : rtab .any (opsOf Tryd.f44 1) = right1.T1 := by kernel_rfl
theorem right1.bits1 : waitsOk right1.T1.2 right1.B1 = true := by kernel_rfl
set_option maxHeartbeats 8000000 in
set_option maxRecDepth 100000 in
theorem right_walk (k : Nat) (a0_0 a0_1 sh : ByteArray) (r1 : Bool) (w : World) (hG : Glob w) (hS : head_Show.f a0_0 a0_1 = some sh) (hsz : sh.size ≤ 100000000) (h : right1.f k a0_0 a0_1 = some r1) :
    Calls Tryd.prog 44 #[.agg #[.string a0_0, .string a0_1]] w fun e w' => e = .returned (.bool (r1 && (Pl.linesL sh).all Pl.fitsL)) ∧ Below w.heap.size w w' := by
  have HS := hid hS
  have HG := hid hG
  clear hS hG
  have hu60 := Tryd.underlying60
  have HB := Aside0.mk (Below.refl w.heap.size w)
  have H : ((head_named.f k a0_0).bind fun t606 => (if t606 = true then ((head_text.f k a0_1).bind fun t607 => (if t607 = true then ((head_trim.f a0_1).bind fun t608 => (if t608.toList = a0_1.toList then (some true) else (some false))) else (some false))) else (some false))) = some r1 := h
  clear h
  replace H := Option.bind_eq_some_iff.mp H
  obtain ⟨t606, A20, H⟩ := H
  replace H : (if t606 = true then ((head_text.f k a0_1).bind fun t607 => (if t607 = true then ((head_trim.f a0_1).bind fun t608 => (if t608.toList = a0_1.toList then (some true) else (some false))) else (some false))) else (some false)) = some r1 := H
  have A2 := Aside0.mk A20
  clear A20
  by_cases c3 : t606 = true
  · subst c3
    have H1 : ((head_text.f k a0_1).bind fun t607 => (if t607 = true then ((head_trim.f a0_1).bind fun t608 => (if t608.toList = a0_1.toList then (some true) else (some false))) else (some false))) = some r1 := by rw [if_pos rfl] at H; exact H
    clear H
    have H := H1
    clear H1
    replace H := Option.bind_eq_some_iff.mp H
    obtain ⟨t607, A40, H⟩ := H
    replace H : (if t607 = true then ((head_trim.f a0_1).bind fun t608 => (if t608.toList = a0_1.toList then (some true) else (some false))) else (some false)) = some r1 := H
    have A4 := Aside0.mk A40
    clear A40
    by_cases c5 : t607 = true
    · subst c5
      have H1 : ((head_trim.f a0_1).bind fun t608 => (if t608.toList = a0_1.toList then (some true) else (some false))) = some r1 := by rw [if_pos rfl] at H; exact H
      clear H
      have H := H1
      clear H1
      replace H := Option.bind_eq_some_iff.mp H
      obtain ⟨t608, A60, H⟩ := H
      replace H : (if t608.toList = a0_1.toList then (some true) else (some false)) = some r1 := H
      have A6 := Aside0.mk A60
      clear A60
      by_cases c7 : t608.toList = a0_1.toList
      · rw [if_pos c7] at H
        have c7b0 : (t608.toList == a0_1.toList) = true := beq_iff_eq.mpr c7
        have c7b1 : (t608.toList != a0_1.toList) = false := bne_eq_false_iff_eq.mpr c7
        clear c7
        obtain rfl := Option.some.inj H
        refine (callsIn_wide (n := 3)).1 ?_
        refine callsIn_of_wp_marks Tryd.func44 rfl trivial ?_ rfl
        simp only [Tryd.ntmps44, List.size_toArray, List.length_cons, List.length_nil, Nat.reduceAdd, Nat.reduceSub, Array.replicate_succ, Array.replicate_zero, List.push_toArray, List.append_toArray, List.nil_append, List.cons_append]
        refine wpIn_wide.2 ?_
        try go_wp2_with (first | ((with_reducible refine gate_dst (N := 1) rfl ?_); refine box_event ?hg (N := 1) ?hd (cs := #[.string a0_0, .string a0_1]) (t := 60) ?hr ?_; (case hd => rfl); (case hg => rfl); (case hr => first | (go_simp; done) | (go_simp; rfl)); intro gb605 hg w8 hbox hb; have n0_ := Aside0.mk (below_step (by repeat (first | (with_reducible first | exact HB.out | apply below_alloc | apply pw_below_drewN | apply below_drew1) | exact HB.out)) hb); have n1_ := Aside0.mk (hbox); have n2_ := Aside0.mk ((by rw [hg]; exact (below_size (by repeat (first | (with_reducible first | exact HB.out | apply below_alloc | apply pw_below_drewN | apply below_drew1) | exact HB.out))) : w.heap.size ≤ gb605)); have n3_ := Aside0.mk ((by rw [hg]; exact (below_size (by repeat (first | (with_reducible first | exact HB.out | apply below_alloc | apply pw_below_drewN | apply below_drew1) | exact HB.out))) : w.heap.size ≤ gb605)); clear HB; have HB := n0_; have BK605 := n1_; have GW605 := n2_; have GE605 := n3_; clear n0_ n1_ n2_ n3_; clear hb hbox hg))
        have hcs := HB.out.size
        have n0_ := Aside0.mk (blk_drew (blk_alloc BK605.out (.cells #[.bool false] 4)))
        have n1_ := Aside0.mk (below_drew1 (below_alloc (o := .cells #[.bool false] 4) HB.out))
        have BC := Aside0.mk (blk_drew (World.alloc_heap_new w8 (.cells #[.bool false] 4)))
        clear BK605
        clear HB
        have BK605 := n0_
        have HB := n1_
        clear n0_ n1_
        generalize w8.heap.size = cb at BC hcs ⊢
        rename_i hKK
        refine Code.wp_mono (Q := onlyN (fun a' w' => ∃ t4 t5 t6 t7 t8 t9 t10 t11 t12 t13 t14 t15 t16 t17 t18 t19 t20 : Value, a' = { tmps := #[.agg #[.string a0_0, .string a0_1], .pointer (some ⟨gb605, 0, none⟩), .pointer (some ⟨cb, 0, none⟩), undef, t4, t5, t6, t7, t8, t9, t10, t11, t12, t13, t14, t15, t16, t17, t18, t19, t20, .bool false, undef, undef, undef, undef, undef, undef, undef], defers := [] } ∧ w'.heap[gb605]? = some (.cells #[.string a0_0, .string a0_1] 60 (0, 0)) ∧ w'.heap[cb]? = some (.cells #[.bool false] 4 (0, 0)) ∧ Below w.heap.size w w')) ?hq1 ?hw1
        case hq1 =>
          intro e a' w' h
          cases e with
          | normal =>
            obtain ⟨t4, t5, t6, t7, t8, t9, t10, t11, t12, t13, t14, t15, t16, t17, t18, t19, t20, rfl, hbk, hbc, hbw⟩ := h
            refine hKK _ _ ?_
            have c0 := (blk_cell hbk 0).trans rfl
            have c1 := (blk_cell hbk 1).trans rfl
            obtain ⟨cc, fc⟩ := cell_of_new hbc
            have hlt : cb < w'.heap.size := (Array.getElem?_eq_some_iff.1 hbc).1
            have hgl : 2 < w.heap.size := by
              obtain ⟨m, hm⟩ := HG.out.max
              exact cell_inside hm
            have hwz := hbw.size
            have HA := Aside0.mk hbw
            have HC := Aside0.mk cc
            have HF := Aside0.mk fc
            clear cc fc hbc hbk hKK hbw
            go_wp2_with (first
              | (go_at_call 45; refine (head_Show.calls a0_0 a0_1 sh _ HS.out).mono ?_; rintro e W1 ⟨rfl, b1⟩)
              | (go_at_call 82; refine (SplitSeq_calls sh ⟨#[13, 10]⟩ _).mono ?_; rintro e W2 ⟨rfl, hb, hz, hB⟩))
            rename_i hK7
            have hz1 : w'.heap.size ≤ W1.heap.size := b1.size
            have B2 : Below w.heap.size w W2 := HA.out.trans ((b1.mono (by omega)).trans (hB.mono (by omega)))
            have cc2 : W2.cell? ⟨cb, 0, none⟩ = some (.bool false) := (hB.cell (p := ⟨cb, 0, none⟩) (by show cb < W1.heap.size; omega)).trans ((b1.cell (p := ⟨cb, 0, none⟩) hlt).trans HC.out)
            have fc2 : W2.frozen? ⟨cb, 0, none⟩ = false := (hB.frozen (p := ⟨cb, 0, none⟩) (by show cb < W1.heap.size; omega)).trans ((b1.frozen (p := ⟨cb, 0, none⟩) hlt).trans HF.out)
            have hG2 := HG.out.below B2
            have h1 : 1 ≤ 3 := by decide
            refine (wpIn_wide (n := 3)).1 ?_
            refine split_range (bs := W1.heap.size) (D := fun b => b = 2 ∨ (W1.heap.size ≤ b ∧ b ≤ W1.heap.size + 2)) (xs := Pl.linesL sh) h1 rfl
              (split_gives_crlf 2 (by decide) W1.heap.size sh (by omega) W2 hG2 (by omega) (by omega) hb) (fun b hb => by rcases hb with rfl | hb <;> omega)
              (fun pre W => (pre.all Pl.fitsL = true ∧ W.cell? ⟨cb, 0, none⟩ = some (.bool false) ∧ W.frozen? ⟨cb, 0, none⟩ = false) ∧ Below w.heap.size w W)
              (fun c pre W => (c = .ret ∧ pre.all Pl.fitsL = false ∧ W.cell? ⟨cb, 0, none⟩ = some (.bool false)) ∧ Below w.heap.size w W)
              (OwnFrom.and (Own.from (fun s A B row hs hg hr => ⟨hs.1, cell_kept hs.2.1 hg hr, (frozen_kept hs.2.1 hg hr).trans hs.2.2⟩) _) (ownFrom_below (Nat.le_refl _) (by omega)))
              (fun c => OwnFrom.and (Own.from (fun s A B row hs hg hr => ⟨hs.1, hs.2.1, cell_kept hs.2.2 hg hr⟩) _) (ownFrom_below (Nat.le_refl _) (by omega)))
              (fun s A v hs => ⟨⟨hs.1.1, (World.cell?_setCell_other _ _ _ _ (by first | (simp; done) | (simp; omega))).trans hs.1.2.1, by rw [World.frozen?_setCell]; exact hs.1.2.2⟩, hs.2.setCell (p := ⟨W1.heap.size, 0, none⟩) (by show w.heap.size ≤ W1.heap.size; omega) _⟩)
              ⟨⟨rfl, cc2, fc2⟩, B2⟩
              (fun x => { tmps := #[.agg #[.string a0_0, .string a0_1], .pointer (some ⟨gb605, 0, none⟩), .pointer (some ⟨cb, 0, none⟩), .string x, t4, t5, t6, t7, t8, t9, t10, t11, t12, t13, t14, t15, t16, t17, t18, t19, t20, .bool false, .agg #[.string a0_0, .string a0_1], .string sh, .func (.func 148) #[] #[.pointer (some ⟨W1.heap.size + 1, 0, none⟩), .pointer (some ⟨W1.heap.size, 0, none⟩), .pointer (some ⟨W1.heap.size + 2, 0, none⟩)], .string x, undef, undef, undef], defers := [] }) ?assign ?body ?done ?stop
            case assign =>
              intro l x W K hK
              gi_wp2
              exact hK
            case body =>
              rintro l pre x W ⟨⟨hp, hc, hf⟩, hBW⟩ hpx
              have hsz1 : cb < W.heap.size := by
                obtain ⟨o, ho, _⟩ := not_walk_of_cell hc
                exact (Array.getElem?_eq_some_iff.1 ho).1
              have h11 : 1 ≤ 3 - 1 - 1 := by decide
              by_cases ha : 998 < x.size
              · have hd : decide ((998 : Int) < (x.size : Int)) = true := decide_eq_true (by omega)
                have hfx : Pl.fitsL x = false := by unfold Pl.fitsL; exact decide_eq_false (by omega)
                gi_wp2
                exact ⟨KeepsOthers.setCell _ _ _, ⟨rfl, by simp [hfx], World.cell?_setCell_same' _ _ _ (by rw [hc]; rfl)⟩, hBW.setCell (p := ⟨cb, 0, none⟩) (by show w.heap.size ≤ cb; omega) _⟩
              · have hd : decide ((998 : Int) < (x.size : Int)) = false := decide_eq_false (by omega)
                have hfx : Pl.fitsL x = true := by unfold Pl.fitsL; exact decide_eq_true (by omega)
                gi_wp2
                exact ⟨⟨Nat.le_refl _, fun _ _ h _ => h⟩, fun _ _ => rfl, ⟨by simp [hp, hfx], hc, hf⟩, hBW⟩
            case done =>
              rintro d W hd ⟨⟨hp, hc, hf⟩, hBW⟩ hK
              refine hK7 _ _ ?_
              go_wp2
              have hK' := (KeepsOthers.setCell W ⟨cb, 0, none⟩ (.bool true)).same d _ hK rfl
              refine ⟨by simp, .inl ⟨_, _, rfl, run_takeDeferred hK', ?_⟩⟩
              have hc5 := cell_kept (World.cell?_setCell_same' W ⟨cb, 0, none⟩ (.bool true) (by rw [hc]; rfl)) (grownBy_putObj' _ d (.deferred none)) (fun r e => by cases e; exact ⟨_, hK', rfl⟩)
              refine ⟨.bool true, ?_, by rw [show (Pl.linesL sh).all Pl.fitsL = true from hp]; rfl, (hBW.setCell (p := ⟨cb, 0, none⟩) (by show w.heap.size ≤ cb; omega) _).trans (belowK_b (w := w) (by omega) _ d _ _ (by omega) hK' rfl rfl)⟩
              simp [results, Tryd.f44, go_sem, hc5]
            case stop =>
              rintro d c pre W hd hpre ⟨⟨rfl, hp, hc⟩, hBW⟩ hK
              gi_wp2
              refine ⟨by simp, .inl ⟨_, _, rfl, run_takeDeferred hK, ?_⟩⟩
              have hc5 := cell_kept hc (grownBy_putObj' _ d (.deferred none)) (fun r e => by cases e; exact ⟨_, hK, rfl⟩)
              have hall : (Pl.linesL sh).all Pl.fitsL = false := by
                rw [List.all_eq_false] at hp ⊢
                obtain ⟨y, hy, hn⟩ := hp
                exact ⟨y, hpre.subset hy, hn⟩
              refine ⟨.bool false, ?_, by rw [hall]; rfl, hBW.trans (belowK_b (w := w) (by omega) W d _ _ (by omega) hK rfl rfl)⟩
              simp [results, Tryd.f44, go_sem, hc5]
          | _ => exact h.elim
          
        case hw1 =>
          refine start_ (n := 18) (S := fun w' => w'.cell? ⟨gb605, 0, none⟩ = some (.string a0_0) ∧ w'.cell? ⟨gb605, 1, none⟩ = some (.string a0_1)) (ds := []) #[false, false, false, false, false, false, false, false, false, false, false, false, false, false, false, false, false, false] (by kernel_rfl) rfl rfl ⟨(blk_cell BK605.out 0).trans rfl, (blk_cell BK605.out 1).trans rfl⟩ (fun hHeld => ?_); refine with_tabW right1.tab1 right1.bits1 (fun HT_ HW_ => ?_)
          generalize (w8.alloc (.cells #[.bool false] 4)).drew = w9 at BK605 HB BC hHeld ⊢
          refine pure_ (i := 0) (N := some 4) (v := ?_) (a' := ?_) #[true, false, false, false, false, false, false, false, false, false, false, false, false, false, false, false, false, false] rfl rfl (any_of HT_.out (by kernel_rfl)) (fun _ _ _ h => h) (Or.inl ⟨by rfl, ?_⟩) ?_ ?_
          rotate_left
          · intro w'
            go_simp
            with_reducible rfl
          rotate_left
          · simp only [Act.put, List.setIfInBounds_toArray, List.set_cons_zero, List.set_cons_succ, i64_w, i32_w]
            rfl
          refine take_ (i := 1) (N := some 5) (v := ?_) (a' := ?_) #[true, true, false, false, false, false, false, false, false, false, false, false, false, false, false, false, false, false] rfl rfl (take_ofW HT_.out HW_.out (by kernel_rfl)) (fun _ _ _ h => h) (Or.inl ⟨by rfl, ?_⟩) hHeld ?_ ?_
          rotate_left
          · rintro w' ⟨s0, s1⟩
            go_simp
            with_reducible rfl
          rotate_left
          · simp only [Act.put, List.setIfInBounds_toArray, List.set_cons_zero, List.set_cons_succ, i64_w, i32_w]
            rfl
          refine one_ (i := 2) (N := some 6) #[true, true, true, false, false, false, false, false, false, false, false, false, false, false, false, false, false, false] rfl rfl (one_of HT_.out (by kernel_rfl)) (by decide) (fun K hK => ?_)
          refine goes_ Tryd.func97 (by kernel_rfl) rfl #[.string a0_0] (by rfl) rfl rfl (by (try simp only [List.map_toArray, List.map_cons, List.map_nil]); first | done | rfl | (simp only [List.length_drop, List.length_take]; rfl)) ?_
          with_reducible refine (head_named.calls k a0_0 true _ A2.out).mono ?_
          rintro e w' ⟨rfl, ⟨nd, rfl⟩⟩
          refine ⟨_, rfl, ?_⟩
          refine hK.out _ _ ⟨(blk_cell BK605.out 0).trans rfl, (blk_cell BK605.out 1).trans rfl⟩ (fun hHeld => ?_)
          clear hK K
          refine norm_ (a' := ?_) ?_ ?_
          rotate_left
          · show Act.put _ (some 6) _ = _
            simp only [Act.put, List.setIfInBounds_toArray, List.set_cons_zero, List.set_cons_succ, i64_w, i32_w]
            rfl
          refine pure_ (i := 3) (N := some 7) (v := ?_) (a' := ?_) #[true, true, true, true, false, false, false, false, false, false, false, false, false, false, false, false, false, false] rfl rfl (any_of HT_.out (by kernel_rfl)) (fun _ _ _ h => h) (Or.inl ⟨by rfl, ?_⟩) ?_ ?_
          rotate_left
          · intro w'
            go_simp
            with_reducible rfl
          rotate_left
          · simp only [Act.put, List.setIfInBounds_toArray, List.set_cons_zero, List.set_cons_succ, i64_w, i32_w]
            rfl
          refine pure_ (i := 4) (N := some 8) (v := ?_) (a' := ?_) #[true, true, true, true, true, false, false, false, false, false, false, false, false, false, false, false, false, false] rfl rfl (any_of HT_.out (by kernel_rfl)) (fun _ _ _ h => h) (Or.inl ⟨by rfl, ?_⟩) ?_ ?_
          rotate_left
          · intro w'
            go_simp
            with_reducible rfl
          rotate_left
          · simp only [Act.put, List.setIfInBounds_toArray, List.set_cons_zero, List.set_cons_succ, i64_w, i32_w]
            rfl
          refine pure_ (i := 5) (N := some 9) (v := ?_) (a' := ?_) #[true, true, true, true, true, true, false, false, false, false, false, false, false, false, false, false, false, false] rfl rfl (any_of HT_.out (by kernel_rfl)) (fun _ _ _ h => h) (Or.inl ⟨by rfl, ?_⟩) ?_ ?_
          rotate_left
          · intro w'
            go_simp
            with_reducible rfl
          rotate_left
          · simp only [Act.put, List.setIfInBounds_toArray, List.set_cons_zero, List.set_cons_succ, i64_w, i32_w]
            rfl
          refine take_ (i := 6) (N := some 10) (v := ?_) (a' := ?_) #[true, true, true, true, true, true, true, false, false, false, false, false, false, false, false, false, false, false] rfl rfl (take_ofW HT_.out HW_.out (by kernel_rfl)) (fun _ _ _ h => h) (Or.inl ⟨by rfl, ?_⟩) hHeld ?_ ?_
          rotate_left
          · rintro w' ⟨s0, s1⟩
            go_simp
            with_reducible rfl
          rotate_left
          · simp only [Act.put, List.setIfInBounds_toArray, List.set_cons_zero, List.set_cons_succ, i64_w, i32_w]
            rfl
          refine one_ (i := 7) (N := some 11) #[true, true, true, true, true, true, true, true, false, false, false, false, false, false, false, false, false, false] rfl rfl (one_of HT_.out (by kernel_rfl)) (by decide) (fun K hK => ?_)
          refine goes_ Tryd.func98 (by kernel_rfl) rfl #[.string a0_1] (by rfl) rfl rfl (by (try simp only [List.map_toArray, List.map_cons, List.map_nil]); first | done | rfl | (simp only [List.length_drop, List.length_take]; rfl)) ?_
          with_reducible refine (head_text.calls k a0_1 true _ A4.out).mono ?_
          rintro e w' ⟨rfl, ⟨nd, rfl⟩⟩
          refine ⟨_, rfl, ?_⟩
          refine hK.out _ _ ⟨(blk_cell BK605.out 0).trans rfl, (blk_cell BK605.out 1).trans rfl⟩ (fun hHeld => ?_)
          clear hK K
          refine norm_ (a' := ?_) ?_ ?_
          rotate_left
          · show Act.put _ (some 11) _ = _
            simp only [Act.put, List.setIfInBounds_toArray, List.set_cons_zero, List.set_cons_succ, i64_w, i32_w]
            rfl
          refine pure_ (i := 8) (N := some 12) (v := ?_) (a' := ?_) #[true, true, true, true, true, true, true, true, true, false, false, false, false, false, false, false, false, false] rfl rfl (any_of HT_.out (by kernel_rfl)) (fun _ _ _ h => h) (Or.inl ⟨by rfl, ?_⟩) ?_ ?_
          rotate_left
          · intro w'
            go_simp
            with_reducible rfl
          rotate_left
          · simp only [Act.put, List.setIfInBounds_toArray, List.set_cons_zero, List.set_cons_succ, i64_w, i32_w]
            rfl
          refine pure_ (i := 9) (N := some 13) (v := ?_) (a' := ?_) #[true, true, true, true, true, true, true, true, true, true, false, false, false, false, false, false, false, false] rfl rfl (any_of HT_.out (by kernel_rfl)) (fun _ _ _ h => h) (Or.inl ⟨by rfl, ?_⟩) ?_ ?_
          rotate_left
          · intro w'
            go_simp
            with_reducible rfl
          rotate_left
          · simp only [Act.put, List.setIfInBounds_toArray, List.set_cons_zero, List.set_cons_succ, i64_w, i32_w]
            rfl
          refine pure_ (i := 10) (N := some 14) (v := ?_) (a' := ?_) #[true, true, true, true, true, true, true, true, true, true, true, false, false, false, false, false, false, false] rfl rfl (any_of HT_.out (by kernel_rfl)) (fun _ _ _ h => h) (Or.inl ⟨by rfl, ?_⟩) ?_ ?_
          rotate_left
          · intro w'
            go_simp
            with_reducible rfl
          rotate_left
          · simp only [Act.put, List.setIfInBounds_toArray, List.set_cons_zero, List.set_cons_succ, i64_w, i32_w]
            rfl
          refine pure_ (i := 11) (N := some 15) (v := ?_) (a' := ?_) #[true, true, true, true, true, true, true, true, true, true, true, true, false, false, false, false, false, false] rfl rfl (any_of HT_.out (by kernel_rfl)) (fun _ _ _ h => h) (Or.inl ⟨by rfl, ?_⟩) ?_ ?_
          rotate_left
          · intro w'
            go_simp
            with_reducible rfl
          rotate_left
          · simp only [Act.put, List.setIfInBounds_toArray, List.set_cons_zero, List.set_cons_succ, i64_w, i32_w]
            rfl
          refine pure_ (i := 14) (N := some 18) (v := ?_) (a' := ?_) #[true, true, true, true, true, true, true, true, true, true, true, true, false, false, true, false, false, false] rfl rfl (any_of HT_.out (by kernel_rfl)) (fun _ _ _ h => h) (Or.inl ⟨by rfl, ?_⟩) ?_ ?_
          rotate_left
          · intro w'
            go_simp
            with_reducible rfl
          rotate_left
          · simp only [Act.put, List.setIfInBounds_toArray, List.set_cons_zero, List.set_cons_succ, i64_w, i32_w]
            rfl
          refine take_ (i := 12) (N := some 16) (v := ?_) (a' := ?_) #[true, true, true, true, true, true, true, true, true, true, true, true, true, false, true, false, false, false] rfl rfl (take_ofW HT_.out HW_.out (by kernel_rfl)) (fun _ _ _ h => h) (Or.inl ⟨by rfl, ?_⟩) hHeld ?_ ?_
          rotate_left
          · rintro w' ⟨s0, s1⟩
            go_simp
            with_reducible rfl
          rotate_left
          · simp only [Act.put, List.setIfInBounds_toArray, List.set_cons_zero, List.set_cons_succ, i64_w, i32_w]
            rfl
          refine take_ (i := 15) (N := some 19) (v := ?_) (a' := ?_) #[true, true, true, true, true, true, true, true, true, true, true, true, true, false, true, true, false, false] rfl rfl (take_ofW HT_.out HW_.out (by kernel_rfl)) (fun _ _ _ h => h) (Or.inl ⟨by rfl, ?_⟩) hHeld ?_ ?_
          rotate_left
          · rintro w' ⟨s0, s1⟩
            go_simp
            with_reducible rfl
          rotate_left
          · simp only [Act.put, List.setIfInBounds_toArray, List.set_cons_zero, List.set_cons_succ, i64_w, i32_w]
            rfl
          refine one_ (i := 13) (N := some 17) #[true, true, true, true, true, true, true, true, true, true, true, true, true, true, true, true, false, false] rfl rfl (one_of HT_.out (by kernel_rfl)) (by decide) (fun K hK => ?_)
          refine goes_ Tryd.func91 (by kernel_rfl) rfl #[.string a0_1] (by rfl) rfl rfl (by (try simp only [List.map_toArray, List.map_cons, List.map_nil]); first | done | rfl | (simp only [List.length_drop, List.length_take]; rfl)) ?_
          with_reducible refine (head_trim.calls a0_1 t608 _ A6.out).mono ?_
          rintro e w10 ⟨rfl, hb⟩
          refine ⟨_, rfl, ?_⟩
          have n0_ := Aside0.mk (blk_below (g := gb605) (o := .cells #[.string a0_0, .string a0_1] 60 (0, 0)) (by (with_reducible repeat (first | refine blk_drewN ?_ _ | refine blk_drew ?_ | refine blk_alloc ?_ _)); exact BK605.out) hb)
          have n1_ := Aside0.mk (below_step (by repeat (first | (with_reducible first | exact HB.out | apply below_alloc | apply pw_below_drewN | apply below_drew1 | refine below_set ?_ GE605.out) | exact HB.out)) hb)
          have nc_ := Aside0.mk (blk_below (g := cb) (o := .cells #[.bool false] 4 (0, 0)) (by (with_reducible repeat (first | refine blk_drewN ?_ _ | refine blk_drew ?_ | refine blk_alloc ?_ _)); exact BC.out) hb)
          clear BC
          have BC := nc_
          clear nc_
          clear BK605
          clear HB
          have BK605 := n0_
          have HB := n1_
          clear n0_ n1_
          (try clear hb)
          (try clear hb2)
          (try clear hk)
          (try clear hi)
          refine hK.out _ _ ⟨(blk_cell BK605.out 0).trans rfl, (blk_cell BK605.out 1).trans rfl⟩ (fun hHeld => ?_)
          clear hK K
          refine norm_ (a' := ?_) ?_ ?_
          rotate_left
          · show Act.put _ (some 17) _ = _
            simp only [Act.put, List.setIfInBounds_toArray, List.set_cons_zero, List.set_cons_succ, i64_w, i32_w]
            rfl
          refine pure_ (i := 16) (N := some 20) (v := ?_) (a' := ?_) #[true, true, true, true, true, true, true, true, true, true, true, true, true, true, true, true, true, false] rfl rfl (any_of HT_.out (by kernel_rfl)) (fun _ _ _ h => h) (Or.inl ⟨by rfl, ?_⟩) ?_ ?_
          rotate_left
          · intro w'
            go_simp
            with_reducible rfl
          rotate_left
          · simp only [Act.put, List.setIfInBounds_toArray, List.set_cons_zero, List.set_cons_succ, i64_w, i32_w]
            rfl
          refine pure_ (i := 17) (N := some 21) (v := ?_) (a' := ?_) #[true, true, true, true, true, true, true, true, true, true, true, true, true, true, true, true, true, true] rfl rfl (any_of HT_.out (by kernel_rfl)) (fun _ _ _ h => h) (Or.inl ⟨by rfl, ?_⟩) ?_ ?_
          rotate_left
          · intro w'
            go_simp
            with_reducible rfl
          rotate_left
          · simp only [Act.put, List.setIfInBounds_toArray, List.set_cons_zero, List.set_cons_succ, i64_w, i32_w]
            rfl
          refine done_ (done_of HT_.out (by kernel_rfl)) ?_
          exact ⟨_, _, _, _, _, _, _, _, _, _, _, _, _, _, _, _, _, rfl, BK605.out, BC.out, by repeat (first | (with_reducible first | exact HB.out | apply below_alloc | apply pw_below_drewN | apply below_drew1) | exact HB.out)⟩
      · rw [if_neg c7] at H
        have c7b0 : (t608.toList == a0_1.toList) = false := beq_eq_false_iff_ne.mpr c7
        have c7b1 : (t608.toList != a0_1.toList) = true := bne_iff_ne.mpr c7
        obtain rfl := Option.some.inj H
        go_enter Tryd.func44, Tryd.ntmps44
        try go_wp2_with (first | ((with_reducible refine gate_dst (N := 1) rfl ?_); refine box_event ?hg (N := 1) ?hd (cs := #[.string a0_0, .string a0_1]) (t := 60) ?hr ?_; (case hd => rfl); (case hg => rfl); (case hr => first | (go_simp; done) | (go_simp; rfl)); intro gb605 hg w11 hbox hb; have n0_ := Aside0.mk (below_step (by repeat (first | (with_reducible first | exact HB.out | apply below_alloc | apply pw_below_drewN | apply below_drew1) | exact HB.out)) hb); have n1_ := Aside0.mk (hbox); have n2_ := Aside0.mk ((by rw [hg]; exact (below_size (by repeat (first | (with_reducible first | exact HB.out | apply below_alloc | apply pw_below_drewN | apply below_drew1) | exact HB.out))) : w.heap.size ≤ gb605)); have n3_ := Aside0.mk ((by rw [hg]; exact (below_size (by repeat (first | (with_reducible first | exact HB.out | apply below_alloc | apply pw_below_drewN | apply below_drew1) | exact HB.out))) : w.heap.size ≤ gb605)); clear HB; have HB := n0_; have BK605 := n1_; have GW605 := n2_; have GE605 := n3_; clear n0_ n1_ n2_ n3_; clear hb hbox hg))
        have hcs := HB.out.size
        have n0_ := Aside0.mk (blk_drew (blk_alloc BK605.out (.cells #[.bool false] 4)))
        have n1_ := Aside0.mk (below_drew1 (below_alloc (o := .cells #[.bool false] 4) HB.out))
        have BC := Aside0.mk (blk_drew (World.alloc_heap_new w11 (.cells #[.bool false] 4)))
        clear BK605
        clear HB
        have BK605 := n0_
        have HB := n1_
        clear n0_ n1_
        generalize w11.heap.size = cb at BC hcs ⊢
        refine start_ (n := 18) (S := fun w' => w'.cell? ⟨gb605, 0, none⟩ = some (.string a0_0) ∧ w'.cell? ⟨gb605, 1, none⟩ = some (.string a0_1)) (ds := []) #[false, false, false, false, false, false, false, false, false, false, false, false, false, false, false, false, false, false] (by kernel_rfl) rfl rfl ⟨(blk_cell BK605.out 0).trans rfl, (blk_cell BK605.out 1).trans rfl⟩ (fun hHeld => ?_); refine with_tabW right1.tab1 right1.bits1 (fun HT_ HW_ => ?_)
        generalize (w11.alloc (.cells #[.bool false] 4)).drew = w12 at BK605 HB BC hHeld ⊢
        refine pure_ (i := 0) (N := some 4) (v := ?_) (a' := ?_) #[true, false, false, false, false, false, false, false, false, false, false, false, false, false, false, false, false, false] rfl rfl (any_of HT_.out (by kernel_rfl)) (fun _ _ _ h => h) (Or.inl ⟨by rfl, ?_⟩) ?_ ?_
        rotate_left
        · intro w'
          go_simp
          with_reducible rfl
        rotate_left
        · simp only [Act.put, List.setIfInBounds_toArray, List.set_cons_zero, List.set_cons_succ, i64_w, i32_w]
          rfl
        refine take_ (i := 1) (N := some 5) (v := ?_) (a' := ?_) #[true, true, false, false, false, false, false, false, false, false, false, false, false, false, false, false, false, false] rfl rfl (take_ofW HT_.out HW_.out (by kernel_rfl)) (fun _ _ _ h => h) (Or.inl ⟨by rfl, ?_⟩) hHeld ?_ ?_
        rotate_left
        · rintro w' ⟨s0, s1⟩
          go_simp
          with_reducible rfl
        rotate_left
        · simp only [Act.put, List.setIfInBounds_toArray, List.set_cons_zero, List.set_cons_succ, i64_w, i32_w]
          rfl
        refine one_ (i := 2) (N := some 6) #[true, true, true, false, false, false, false, false, false, false, false, false, false, false, false, false, false, false] rfl rfl (one_of HT_.out (by kernel_rfl)) (by decide) (fun K hK => ?_)
        refine goes_ Tryd.func97 (by kernel_rfl) rfl #[.string a0_0] (by rfl) rfl rfl (by (try simp only [List.map_toArray, List.map_cons, List.map_nil]); first | done | rfl | (simp only [List.length_drop, List.length_take]; rfl)) ?_
        with_reducible refine (head_named.calls k a0_0 true _ A2.out).mono ?_
        rintro e w' ⟨rfl, ⟨nd, rfl⟩⟩
        refine ⟨_, rfl, ?_⟩
        refine hK.out _ _ ⟨(blk_cell BK605.out 0).trans rfl, (blk_cell BK605.out 1).trans rfl⟩ (fun hHeld => ?_)
        clear hK K
        refine norm_ (a' := ?_) ?_ ?_
        rotate_left
        · show Act.put _ (some 6) _ = _
          simp only [Act.put, List.setIfInBounds_toArray, List.set_cons_zero, List.set_cons_succ, i64_w, i32_w]
          rfl
        refine pure_ (i := 3) (N := some 7) (v := ?_) (a' := ?_) #[true, true, true, true, false, false, false, false, false, false, false, false, false, false, false, false, false, false] rfl rfl (any_of HT_.out (by kernel_rfl)) (fun _ _ _ h => h) (Or.inl ⟨by rfl, ?_⟩) ?_ ?_
        rotate_left
        · intro w'
          go_simp
          with_reducible rfl
        rotate_left
        · simp only [Act.put, List.setIfInBounds_toArray, List.set_cons_zero, List.set_cons_succ, i64_w, i32_w]
          rfl
        refine pure_ (i := 4) (N := some 8) (v := ?_) (a' := ?_) #[true, true, true, true, true, false, false, false, false, false, false, false, false, false, false, false, false, false] rfl rfl (any_of HT_.out (by kernel_rfl)) (fun _ _ _ h => h) (Or.inl ⟨by rfl, ?_⟩) ?_ ?_
        rotate_left
        · intro w'
          go_simp
          with_reducible rfl
        rotate_left
        · simp only [Act.put, List.setIfInBounds_toArray, List.set_cons_zero, List.set_cons_succ, i64_w, i32_w]
          rfl
        refine pure_ (i := 5) (N := some 9) (v := ?_) (a' := ?_) #[true, true, true, true, true, true, false, false, false, false, false, false, false, false, false, false, false, false] rfl rfl (any_of HT_.out (by kernel_rfl)) (fun _ _ _ h => h) (Or.inl ⟨by rfl, ?_⟩) ?_ ?_
        rotate_left
        · intro w'
          go_simp
          with_reducible rfl
        rotate_left
        · simp only [Act.put, List.setIfInBounds_toArray, List.set_cons_zero, List.set_cons_succ, i64_w, i32_w]
          rfl
        refine take_ (i := 6) (N := some 10) (v := ?_) (a' := ?_) #[true, true, true, true, true, true, true, false, false, false, false, false, false, false, false, false, false, false] rfl rfl (take_ofW HT_.out HW_.out (by kernel_rfl)) (fun _ _ _ h => h) (Or.inl ⟨by rfl, ?_⟩) hHeld ?_ ?_
        rotate_left
        · rintro w' ⟨s0, s1⟩
          go_simp
          with_reducible rfl
        rotate_left
        · simp only [Act.put, List.setIfInBounds_toArray, List.set_cons_zero, List.set_cons_succ, i64_w, i32_w]
          rfl
        refine one_ (i := 7) (N := some 11) #[true, true, true, true, true, true, true, true, false, false, false, false, false, false, false, false, false, false] rfl rfl (one_of HT_.out (by kernel_rfl)) (by decide) (fun K hK => ?_)
        refine goes_ Tryd.func98 (by kernel_rfl) rfl #[.string a0_1] (by rfl) rfl rfl (by (try simp only [List.map_toArray, List.map_cons, List.map_nil]); first | done | rfl | (simp only [List.length_drop, List.length_take]; rfl)) ?_
        with_reducible refine (head_text.calls k a0_1 true _ A4.out).mono ?_
        rintro e w' ⟨rfl, ⟨nd, rfl⟩⟩
        refine ⟨_, rfl, ?_⟩
        refine hK.out _ _ ⟨(blk_cell BK605.out 0).trans rfl, (blk_cell BK605.out 1).trans rfl⟩ (fun hHeld => ?_)
        clear hK K
        refine norm_ (a' := ?_) ?_ ?_
        rotate_left
        · show Act.put _ (some 11) _ = _
          simp only [Act.put, List.setIfInBounds_toArray, List.set_cons_zero, List.set_cons_succ, i64_w, i32_w]
          rfl
        refine pure_ (i := 8) (N := some 12) (v := ?_) (a' := ?_) #[true, true, true, true, true, true, true, true, true, false, false, false, false, false, false, false, false, false] rfl rfl (any_of HT_.out (by kernel_rfl)) (fun _ _ _ h => h) (Or.inl ⟨by rfl, ?_⟩) ?_ ?_
        rotate_left
        · intro w'
          go_simp
          with_reducible rfl
        rotate_left
        · simp only [Act.put, List.setIfInBounds_toArray, List.set_cons_zero, List.set_cons_succ, i64_w, i32_w]
          rfl
        refine pure_ (i := 9) (N := some 13) (v := ?_) (a' := ?_) #[true, true, true, true, true, true, true, true, true, true, false, false, false, false, false, false, false, false] rfl rfl (any_of HT_.out (by kernel_rfl)) (fun _ _ _ h => h) (Or.inl ⟨by rfl, ?_⟩) ?_ ?_
        rotate_left
        · intro w'
          go_simp
          with_reducible rfl
        rotate_left
        · simp only [Act.put, List.setIfInBounds_toArray, List.set_cons_zero, List.set_cons_succ, i64_w, i32_w]
          rfl
        refine pure_ (i := 10) (N := some 14) (v := ?_) (a' := ?_) #[true, true, true, true, true, true, true, true, true, true, true, false, false, false, false, false, false, false] rfl rfl (any_of HT_.out (by kernel_rfl)) (fun _ _ _ h => h) (Or.inl ⟨by rfl, ?_⟩) ?_ ?_
        rotate_left
        · intro w'
          go_simp
          with_reducible rfl
        rotate_left
        · simp only [Act.put, List.setIfInBounds_toArray, List.set_cons_zero, List.set_cons_succ, i64_w, i32_w]
          rfl
        refine pure_ (i := 11) (N := some 15) (v := ?_) (a' := ?_) #[true, true, true, true, true, true, true, true, true, true, true, true, false, false, false, false, false, false] rfl rfl (any_of HT_.out (by kernel_rfl)) (fun _ _ _ h => h) (Or.inl ⟨by rfl, ?_⟩) ?_ ?_
        rotate_left
        · intro w'
          go_simp
          with_reducible rfl
        rotate_left
        · simp only [Act.put, List.setIfInBounds_toArray, List.set_cons_zero, List.set_cons_succ, i64_w, i32_w]
          rfl
        refine pure_ (i := 14) (N := some 18) (v := ?_) (a' := ?_) #[true, true, true, true, true, true, true, true, true, true, true, true, false, false, true, false, false, false] rfl rfl (any_of HT_.out (by kernel_rfl)) (fun _ _ _ h => h) (Or.inl ⟨by rfl, ?_⟩) ?_ ?_
        rotate_left
        · intro w'
          go_simp
          with_reducible rfl
        rotate_left
        · simp only [Act.put, List.setIfInBounds_toArray, List.set_cons_zero, List.set_cons_succ, i64_w, i32_w]
          rfl
        refine take_ (i := 12) (N := some 16) (v := ?_) (a' := ?_) #[true, true, true, true, true, true, true, true, true, true, true, true, true, false, true, false, false, false] rfl rfl (take_ofW HT_.out HW_.out (by kernel_rfl)) (fun _ _ _ h => h) (Or.inl ⟨by rfl, ?_⟩) hHeld ?_ ?_
        rotate_left
        · rintro w' ⟨s0, s1⟩
          go_simp
          with_reducible rfl
        rotate_left
        · simp only [Act.put, List.setIfInBounds_toArray, List.set_cons_zero, List.set_cons_succ, i64_w, i32_w]
          rfl
        refine take_ (i := 15) (N := some 19) (v := ?_) (a' := ?_) #[true, true, true, true, true, true, true, true, true, true, true, true, true, false, true, true, false, false] rfl rfl (take_ofW HT_.out HW_.out (by kernel_rfl)) (fun _ _ _ h => h) (Or.inl ⟨by rfl, ?_⟩) hHeld ?_ ?_
        rotate_left
        · rintro w' ⟨s0, s1⟩
          go_simp
          with_reducible rfl
        rotate_left
        · simp only [Act.put, List.setIfInBounds_toArray, List.set_cons_zero, List.set_cons_succ, i64_w, i32_w]
          rfl
        refine one_ (i := 13) (N := some 17) #[true, true, true, true, true, true, true, true, true, true, true, true, true, true, true, true, false, false] rfl rfl (one_of HT_.out (by kernel_rfl)) (by decide) (fun K hK => ?_)
        refine goes_ Tryd.func91 (by kernel_rfl) rfl #[.string a0_1] (by rfl) rfl rfl (by (try simp only [List.map_toArray, List.map_cons, List.map_nil]); first | done | rfl | (simp only [List.length_drop, List.length_take]; rfl)) ?_
        with_reducible refine (head_trim.calls a0_1 t608 _ A6.out).mono ?_
        rintro e w13 ⟨rfl, hb⟩
        refine ⟨_, rfl, ?_⟩
        have n0_ := Aside0.mk (blk_below (g := gb605) (o := .cells #[.string a0_0, .string a0_1] 60 (0, 0)) (by (with_reducible repeat (first | refine blk_drewN ?_ _ | refine blk_drew ?_ | refine blk_alloc ?_ _)); exact BK605.out) hb)
        have n1_ := Aside0.mk (below_step (by repeat (first | (with_reducible first | exact HB.out | apply below_alloc | apply pw_below_drewN | apply below_drew1 | refine below_set ?_ GE605.out) | exact HB.out)) hb)
        have nc_ := Aside0.mk (blk_below (g := cb) (o := .cells #[.bool false] 4 (0, 0)) (by (with_reducible repeat (first | refine blk_drewN ?_ _ | refine blk_drew ?_ | refine blk_alloc ?_ _)); exact BC.out) hb)
        clear BC
        have BC := nc_
        clear nc_
        clear BK605
        clear HB
        have BK605 := n0_
        have HB := n1_
        clear n0_ n1_
        (try clear hb)
        (try clear hb2)
        (try clear hk)
        (try clear hi)
        refine hK.out _ _ ⟨(blk_cell BK605.out 0).trans rfl, (blk_cell BK605.out 1).trans rfl⟩ (fun hHeld => ?_)
        clear hK K
        refine norm_ (a' := ?_) ?_ ?_
        rotate_left
        · show Act.put _ (some 17) _ = _
          simp only [Act.put, List.setIfInBounds_toArray, List.set_cons_zero, List.set_cons_succ, i64_w, i32_w]
          rfl
        refine pure_ (i := 16) (N := some 20) (v := ?_) (a' := ?_) #[true, true, true, true, true, true, true, true, true, true, true, true, true, true, true, true, true, false] rfl rfl (any_of HT_.out (by kernel_rfl)) (fun _ _ _ h => h) (Or.inl ⟨by rfl, ?_⟩) ?_ ?_
        rotate_left
        · intro w'
          go_simp
          with_reducible rfl
        rotate_left
        · simp only [Act.put, List.setIfInBounds_toArray, List.set_cons_zero, List.set_cons_succ, i64_w, i32_w]
          rfl
        refine pure_ (i := 17) (N := some 21) (v := ?_) (a' := ?_) #[true, true, true, true, true, true, true, true, true, true, true, true, true, true, true, true, true, true] rfl rfl (any_of HT_.out (by kernel_rfl)) (fun _ _ _ h => h) (Or.inl ⟨by rfl, ?_⟩) ?_ ?_
        rotate_left
        · intro w'
          go_simp
          with_reducible rfl
        rotate_left
        · simp only [Act.put, List.setIfInBounds_toArray, List.set_cons_zero, List.set_cons_succ, i64_w, i32_w]
          rfl
        refine done_ (done_of HT_.out (by kernel_rfl)) ?_
        (try obtain ⟨c0, f0⟩ := cell_of_new BC.out)
        go_wp2
        refine bodyPost_ret (v := .bool false) ?_ rfl ⟨rfl, ?_⟩
        · simp [results, Tryd.f44, go_sem, c0]
        · exact (by repeat (first | (with_reducible first | exact HB.out | apply below_alloc | apply pw_below_drewN | apply below_drew1 | (refine Below.setCell (p := ⟨cb, 0, none⟩) ?_ (by omega) _)) | exact HB.out))
    · replace c5 := Bool.eq_false_iff.mpr c5
      subst c5
      have H1 : (some false) = some r1 := by rw [if_neg (show ¬ (false = true) by decide)] at H; exact H
      clear H
      have H := H1
      clear H1
      obtain rfl := Option.some.inj H
      go_enter Tryd.func44, Tryd.ntmps44
      try go_wp2_with (first | ((with_reducible refine gate_dst (N := 1) rfl ?_); refine box_event ?hg (N := 1) ?hd (cs := #[.string a0_0, .string a0_1]) (t := 60) ?hr ?_; (case hd => rfl); (case hg => rfl); (case hr => first | (go_simp; done) | (go_simp; rfl)); intro gb605 hg w14 hbox hb; have n0_ := Aside0.mk (below_step (by repeat (first | (with_reducible first | exact HB.out | apply below_alloc | apply pw_below_drewN | apply below_drew1) | exact HB.out)) hb); have n1_ := Aside0.mk (hbox); have n2_ := Aside0.mk ((by rw [hg]; exact (below_size (by repeat (first | (with_reducible first | exact HB.out | apply below_alloc | apply pw_below_drewN | apply below_drew1) | exact HB.out))) : w.heap.size ≤ gb605)); have n3_ := Aside0.mk ((by rw [hg]; exact (below_size (by repeat (first | (with_reducible first | exact HB.out | apply below_alloc | apply pw_below_drewN | apply below_drew1) | exact HB.out))) : w.heap.size ≤ gb605)); clear HB; have HB := n0_; have BK605 := n1_; have GW605 := n2_; have GE605 := n3_; clear n0_ n1_ n2_ n3_; clear hb hbox hg))
      have hcs := HB.out.size
      have n0_ := Aside0.mk (blk_drew (blk_alloc BK605.out (.cells #[.bool false] 4)))
      have n1_ := Aside0.mk (below_drew1 (below_alloc (o := .cells #[.bool false] 4) HB.out))
      have BC := Aside0.mk (blk_drew (World.alloc_heap_new w14 (.cells #[.bool false] 4)))
      clear BK605
      clear HB
      have BK605 := n0_
      have HB := n1_
      clear n0_ n1_
      generalize w14.heap.size = cb at BC hcs ⊢
      refine start_ (n := 18) (S := fun w' => w'.cell? ⟨gb605, 0, none⟩ = some (.string a0_0) ∧ w'.cell? ⟨gb605, 1, none⟩ = some (.string a0_1)) (ds := []) #[false, false, false, false, false, false, false, false, false, false, false, false, false, false, false, false, false, false] (by kernel_rfl) rfl rfl ⟨(blk_cell BK605.out 0).trans rfl, (blk_cell BK605.out 1).trans rfl⟩ (fun hHeld => ?_); refine with_tabW right1.tab1 right1.bits1 (fun HT_ HW_ => ?_)
      generalize (w14.alloc (.cells #[.bool false] 4)).drew = w15 at BK605 HB BC hHeld ⊢
      refine pure_ (i := 0) (N := some 4) (v := ?_) (a' := ?_) #[true, false, false, false, false, false, false, false, false, false, false, false, false, false, false, false, false, false] rfl rfl (any_of HT_.out (by kernel_rfl)) (fun _ _ _ h => h) (Or.inl ⟨by rfl, ?_⟩) ?_ ?_
      rotate_left
      · intro w'
        go_simp
        with_reducible rfl
      rotate_left
      · simp only [Act.put, List.setIfInBounds_toArray, List.set_cons_zero, List.set_cons_succ, i64_w, i32_w]
        rfl
      refine take_ (i := 1) (N := some 5) (v := ?_) (a' := ?_) #[true, true, false, false, false, false, false, false, false, false, false, false, false, false, false, false, false, false] rfl rfl (take_ofW HT_.out HW_.out (by kernel_rfl)) (fun _ _ _ h => h) (Or.inl ⟨by rfl, ?_⟩) hHeld ?_ ?_
      rotate_left
      · rintro w' ⟨s0, s1⟩
        go_simp
        with_reducible rfl
      rotate_left
      · simp only [Act.put, List.setIfInBounds_toArray, List.set_cons_zero, List.set_cons_succ, i64_w, i32_w]
        rfl
      refine one_ (i := 2) (N := some 6) #[true, true, true, false, false, false, false, false, false, false, false, false, false, false, false, false, false, false] rfl rfl (one_of HT_.out (by kernel_rfl)) (by decide) (fun K hK => ?_)
      refine goes_ Tryd.func97 (by kernel_rfl) rfl #[.string a0_0] (by rfl) rfl rfl (by (try simp only [List.map_toArray, List.map_cons, List.map_nil]); first | done | rfl | (simp only [List.length_drop, List.length_take]; rfl)) ?_
      with_reducible refine (head_named.calls k a0_0 true _ A2.out).mono ?_
      rintro e w' ⟨rfl, ⟨nd, rfl⟩⟩
      refine ⟨_, rfl, ?_⟩
      refine hK.out _ _ ⟨(blk_cell BK605.out 0).trans rfl, (blk_cell BK605.out 1).trans rfl⟩ (fun hHeld => ?_)
      clear hK K
      refine norm_ (a' := ?_) ?_ ?_
      rotate_left
      · show Act.put _ (some 6) _ = _
        simp only [Act.put, List.setIfInBounds_toArray, List.set_cons_zero, List.set_cons_succ, i64_w, i32_w]
        rfl
      refine pure_ (i := 3) (N := some 7) (v := ?_) (a' := ?_) #[true, true, true, true, false, false, false, false, false, false, false, false, false, false, false, false, false, false] rfl rfl (any_of HT_.out (by kernel_rfl)) (fun _ _ _ h => h) (Or.inl ⟨by rfl, ?_⟩) ?_ ?_
      rotate_left
      · intro w'
        go_simp
        with_reducible rfl
      rotate_left
      · simp only [Act.put, List.setIfInBounds_toArray, List.set_cons_zero, List.set_cons_succ, i64_w, i32_w]
        rfl
      refine pure_ (i := 4) (N := some 8) (v := ?_) (a' := ?_) #[true, true, true, true, true, false, false, false, false, false, false, false, false, false, false, false, false, false] rfl rfl (any_of HT_.out (by kernel_rfl)) (fun _ _ _ h => h) (Or.inl ⟨by rfl, ?_⟩) ?_ ?_
      rotate_left
      · intro w'
        go_simp
        with_reducible rfl
      rotate_left
      · simp only [Act.put, List.setIfInBounds_toArray, List.set_cons_zero, List.set_cons_succ, i64_w, i32_w]
        rfl
      refine pure_ (i := 5) (N := some 9) (v := ?_) (a' := ?_) #[true, true, true, true, true, true, false, false, false, false, false, false, false, false, false, false, false, false] rfl rfl (any_of HT_.out (by kernel_rfl)) (fun _ _ _ h => h) (Or.inl ⟨by rfl, ?_⟩) ?_ ?_
      rotate_left
      · intro w'
        go_simp
        with_reducible rfl
      rotate_left
      · simp only [Act.put, List.setIfInBounds_toArray, List.set_cons_zero, List.set_cons_succ, i64_w, i32_w]
        rfl
      refine take_ (i := 6) (N := some 10) (v := ?_) (a' := ?_) #[true, true, true, true, true, true, true, false, false, false, false, false, false, false, false, false, false, false] rfl rfl (take_ofW HT_.out HW_.out (by kernel_rfl)) (fun _ _ _ h => h) (Or.inl ⟨by rfl, ?_⟩) hHeld ?_ ?_
      rotate_left
      · rintro w' ⟨s0, s1⟩
        go_simp
        with_reducible rfl
      rotate_left
      · simp only [Act.put, List.setIfInBounds_toArray, List.set_cons_zero, List.set_cons_succ, i64_w, i32_w]
        rfl
      refine one_ (i := 7) (N := some 11) #[true, true, true, true, true, true, true, true, false, false, false, false, false, false, false, false, false, false] rfl rfl (one_of HT_.out (by kernel_rfl)) (by decide) (fun K hK => ?_)
      refine goes_ Tryd.func98 (by kernel_rfl) rfl #[.string a0_1] (by rfl) rfl rfl (by (try simp only [List.map_toArray, List.map_cons, List.map_nil]); first | done | rfl | (simp only [List.length_drop, List.length_take]; rfl)) ?_
      with_reducible refine (head_text.calls k a0_1 false _ A4.out).mono ?_
      rintro e w' ⟨rfl, ⟨nd, rfl⟩⟩
      refine ⟨_, rfl, ?_⟩
      refine hK.out _ _ ⟨(blk_cell BK605.out 0).trans rfl, (blk_cell BK605.out 1).trans rfl⟩ (fun hHeld => ?_)
      clear hK K
      refine norm_ (a' := ?_) ?_ ?_
      rotate_left
      · show Act.put _ (some 11) _ = _
        simp only [Act.put, List.setIfInBounds_toArray, List.set_cons_zero, List.set_cons_succ, i64_w, i32_w]
        rfl
      refine pure_ (i := 8) (N := some 12) (v := ?_) (a' := ?_) #[true, true, true, true, true, true, true, true, true, false, false, false, false, false, false, false, false, false] rfl rfl (any_of HT_.out (by kernel_rfl)) (fun _ _ _ h => h) (Or.inl ⟨by rfl, ?_⟩) ?_ ?_
      rotate_left
      · intro w'
        go_simp
        with_reducible rfl
      rotate_left
      · simp only [Act.put, List.setIfInBounds_toArray, List.set_cons_zero, List.set_cons_succ, i64_w, i32_w]
        rfl
      refine pure_ (i := 9) (N := some 13) (v := ?_) (a' := ?_) #[true, true, true, true, true, true, true, true, true, true, false, false, false, false, false, false, false, false] rfl rfl (any_of HT_.out (by kernel_rfl)) (fun _ _ _ h => h) (Or.inl ⟨by rfl, ?_⟩) ?_ ?_
      rotate_left
      · intro w'
        go_simp
        with_reducible rfl
      rotate_left
      · simp only [Act.put, List.setIfInBounds_toArray, List.set_cons_zero, List.set_cons_succ, i64_w, i32_w]
        rfl
      refine pure_ (i := 10) (N := some 14) (v := ?_) (a' := ?_) #[true, true, true, true, true, true, true, true, true, true, true, false, false, false, false, false, false, false] rfl rfl (any_of HT_.out (by kernel_rfl)) (fun _ _ _ h => h) (Or.inl ⟨by rfl, ?_⟩) ?_ ?_
      rotate_left
      · intro w'
        go_simp
        with_reducible rfl
      rotate_left
      · simp only [Act.put, List.setIfInBounds_toArray, List.set_cons_zero, List.set_cons_succ, i64_w, i32_w]
        rfl
      refine pure_ (i := 11) (N := some 15) (v := undef) (a' := ?_) #[true, true, true, true, true, true, true, true, true, true, true, true, false, false, false, false, false, false] rfl rfl (any_of HT_.out (by kernel_rfl)) (fun _ _ _ h => h) (Or.inr ⟨by rfl, rfl⟩) ?_ ?_
      rotate_left
      · simp only [Act.put, List.setIfInBounds_toArray, List.set_cons_zero, List.set_cons_succ, i64_w, i32_w]
        rfl
      refine pure_ (i := 12) (N := some 16) (v := undef) (a' := ?_) #[true, true, true, true, true, true, true, true, true, true, true, true, true, false, false, false, false, false] rfl rfl (any_of HT_.out (by kernel_rfl)) (fun _ _ _ h => h) (Or.inr ⟨by rfl, rfl⟩) ?_ ?_
      rotate_left
      · simp only [Act.put, List.setIfInBounds_toArray, List.set_cons_zero, List.set_cons_succ, i64_w, i32_w]
        rfl
      refine pure_ (i := 13) (N := some 17) (v := undef) (a' := ?_) #[true, true, true, true, true, true, true, true, true, true, true, true, true, true, false, false, false, false] rfl rfl (any_of HT_.out (by kernel_rfl)) (fun _ _ _ h => h) (Or.inr ⟨by rfl, rfl⟩) ?_ ?_
      rotate_left
      · simp only [Act.put, List.setIfInBounds_toArray, List.set_cons_zero, List.set_cons_succ, i64_w, i32_w]
        rfl
      refine pure_ (i := 14) (N := some 18) (v := undef) (a' := ?_) #[true, true, true, true, true, true, true, true, true, true, true, true, true, true, true, false, false, false] rfl rfl (any_of HT_.out (by kernel_rfl)) (fun _ _ _ h => h) (Or.inr ⟨by rfl, rfl⟩) ?_ ?_
      rotate_left
      · simp only [Act.put, List.setIfInBounds_toArray, List.set_cons_zero, List.set_cons_succ, i64_w, i32_w]
        rfl
      refine pure_ (i := 15) (N := some 19) (v := undef) (a' := ?_) #[true, true, true, true, true, true, true, true, true, true, true, true, true, true, true, true, false, false] rfl rfl (any_of HT_.out (by kernel_rfl)) (fun _ _ _ h => h) (Or.inr ⟨by rfl, rfl⟩) ?_ ?_
      rotate_left
      · simp only [Act.put, List.setIfInBounds_toArray, List.set_cons_zero, List.set_cons_succ, i64_w, i32_w]
        rfl
      refine pure_ (i := 16) (N := some 20) (v := undef) (a' := ?_) #[true, true, true, true, true, true, true, true, true, true, true, true, true, true, true, true, true, false] rfl rfl (any_of HT_.out (by kernel_rfl)) (fun _ _ _ h => h) (Or.inr ⟨by rfl, rfl⟩) ?_ ?_
      rotate_left
      · simp only [Act.put, List.setIfInBounds_toArray, List.set_cons_zero, List.set_cons_succ, i64_w, i32_w]
        rfl
      refine pure_ (i := 17) (N := some 21) (v := ?_) (a' := ?_) #[true, true, true, true, true, true, true, true, true, true, true, true, true, true, true, true, true, true] rfl rfl (any_of HT_.out (by kernel_rfl)) (fun _ _ _ h => h) (Or.inl ⟨by rfl, ?_⟩) ?_ ?_
      rotate_left
      · intro w'
        go_simp
        with_reducible rfl
      rotate_left
      · simp only [Act.put, List.setIfInBounds_toArray, List.set_cons_zero, List.set_cons_succ, i64_w, i32_w]
        rfl
      refine done_ (done_of HT_.out (by kernel_rfl)) ?_
      (try obtain ⟨c0, f0⟩ := cell_of_new BC.out)
      go_wp2
      refine bodyPost_ret (v := .bool false) ?_ rfl ⟨rfl, ?_⟩
      · simp [results, Tryd.f44, go_sem, c0]
      · exact (by repeat (first | (with_reducible first | exact HB.out | apply below_alloc | apply pw_below_drewN | apply below_drew1 | (refine Below.setCell (p := ⟨cb, 0, none⟩) ?_ (by omega) _)) | exact HB.out))
  · replace c3 := Bool.eq_false_iff.mpr c3
    subst c3
    have H1 : (some false) = some r1 := by rw [if_neg (show ¬ (false = true) by decide)] at H; exact H
    clear H
    have H := H1
    clear H1
    obtain rfl := Option.some.inj H
    go_enter Tryd.func44, Tryd.ntmps44
    try go_wp2_with (first | ((with_reducible refine gate_dst (N := 1) rfl ?_); refine box_event ?hg (N := 1) ?hd (cs := #[.string a0_0, .string a0_1]) (t := 60) ?hr ?_; (case hd => rfl); (case hg => rfl); (case hr => first | (go_simp; done) | (go_simp; rfl)); intro gb605 hg w16 hbox hb; have n0_ := Aside0.mk (below_step (by repeat (first | (with_reducible first | exact HB.out | apply below_alloc | apply pw_below_drewN | apply below_drew1) | exact HB.out)) hb); have n1_ := Aside0.mk (hbox); have n2_ := Aside0.mk ((by rw [hg]; exact (below_size (by repeat (first | (with_reducible first | exact HB.out | apply below_alloc | apply pw_below_drewN | apply below_drew1) | exact HB.out))) : w.heap.size ≤ gb605)); have n3_ := Aside0.mk ((by rw [hg]; exact (below_size (by repeat (first | (with_reducible first | exact HB.out | apply below_alloc | apply pw_below_drewN | apply below_drew1) | exact HB.out))) : w.heap.size ≤ gb605)); clear HB; have HB := n0_; have BK605 := n1_; have GW605 := n2_; have GE605 := n3_; clear n0_ n1_ n2_ n3_; clear hb hbox hg))
    have hcs := HB.out.size
    have n0_ := Aside0.mk (blk_drew (blk_alloc BK605.out (.cells #[.bool false] 4)))
    have n1_ := Aside0.mk (below_drew1 (below_alloc (o := .cells #[.bool false] 4) HB.out))
    have BC := Aside0.mk (blk_drew (World.alloc_heap_new w16 (.cells #[.bool false] 4)))
    clear BK605
    clear HB
    have BK605 := n0_
    have HB := n1_
    clear n0_ n1_
    generalize w16.heap.size = cb at BC hcs ⊢
    refine start_ (n := 18) (S := fun w' => w'.cell? ⟨gb605, 0, none⟩ = some (.string a0_0) ∧ w'.cell? ⟨gb605, 1, none⟩ = some (.string a0_1)) (ds := []) #[false, false, false, false, false, false, false, false, false, false, false, false, false, false, false, false, false, false] (by kernel_rfl) rfl rfl ⟨(blk_cell BK605.out 0).trans rfl, (blk_cell BK605.out 1).trans rfl⟩ (fun hHeld => ?_); refine with_tabW right1.tab1 right1.bits1 (fun HT_ HW_ => ?_)
    generalize (w16.alloc (.cells #[.bool false] 4)).drew = w17 at BK605 HB BC hHeld ⊢
    refine pure_ (i := 0) (N := some 4) (v := ?_) (a' := ?_) #[true, false, false, false, false, false, false, false, false, false, false, false, false, false, false, false, false, false] rfl rfl (any_of HT_.out (by kernel_rfl)) (fun _ _ _ h => h) (Or.inl ⟨by rfl, ?_⟩) ?_ ?_
    rotate_left
    · intro w'
      go_simp
      with_reducible rfl
    rotate_left
    · simp only [Act.put, List.setIfInBounds_toArray, List.set_cons_zero, List.set_cons_succ, i64_w, i32_w]
      rfl
    refine take_ (i := 1) (N := some 5) (v := ?_) (a' := ?_) #[true, true, false, false, false, false, false, false, false, false, false, false, false, false, false, false, false, false] rfl rfl (take_ofW HT_.out HW_.out (by kernel_rfl)) (fun _ _ _ h => h) (Or.inl ⟨by rfl, ?_⟩) hHeld ?_ ?_
    rotate_left
    · rintro w' ⟨s0, s1⟩
      go_simp
      with_reducible rfl
    rotate_left
    · simp only [Act.put, List.setIfInBounds_toArray, List.set_cons_zero, List.set_cons_succ, i64_w, i32_w]
      rfl
    refine one_ (i := 2) (N := some 6) #[true, true, true, false, false, false, false, false, false, false, false, false, false, false, false, false, false, false] rfl rfl (one_of HT_.out (by kernel_rfl)) (by decide) (fun K hK => ?_)
    refine goes_ Tryd.func97 (by kernel_rfl) rfl #[.string a0_0] (by rfl) rfl rfl (by (try simp only [List.map_toArray, List.map_cons, List.map_nil]); first | done | rfl | (simp only [List.length_drop, List.length_take]; rfl)) ?_
    with_reducible refine (head_named.calls k a0_0 false _ A2.out).mono ?_
    rintro e w' ⟨rfl, ⟨nd, rfl⟩⟩
    refine ⟨_, rfl, ?_⟩
    refine hK.out _ _ ⟨(blk_cell BK605.out 0).trans rfl, (blk_cell BK605.out 1).trans rfl⟩ (fun hHeld => ?_)
    clear hK K
    refine norm_ (a' := ?_) ?_ ?_
    rotate_left
    · show Act.put _ (some 6) _ = _
      simp only [Act.put, List.setIfInBounds_toArray, List.set_cons_zero, List.set_cons_succ, i64_w, i32_w]
      rfl
    refine pure_ (i := 3) (N := some 7) (v := ?_) (a' := ?_) #[true, true, true, true, false, false, false, false, false, false, false, false, false, false, false, false, false, false] rfl rfl (any_of HT_.out (by kernel_rfl)) (fun _ _ _ h => h) (Or.inl ⟨by rfl, ?_⟩) ?_ ?_
    rotate_left
    · intro w'
      go_simp
      with_reducible rfl
    rotate_left
    · simp only [Act.put, List.setIfInBounds_toArray, List.set_cons_zero, List.set_cons_succ, i64_w, i32_w]
      rfl
    refine pure_ (i := 4) (N := some 8) (v := ?_) (a' := ?_) #[true, true, true, true, true, false, false, false, false, false, false, false, false, false, false, false, false, false] rfl rfl (any_of HT_.out (by kernel_rfl)) (fun _ _ _ h => h) (Or.inl ⟨by rfl, ?_⟩) ?_ ?_
    rotate_left
    · intro w'
      go_simp
      with_reducible rfl
    rotate_left
    · simp only [Act.put, List.setIfInBounds_toArray, List.set_cons_zero, List.set_cons_succ, i64_w, i32_w]
      rfl
    refine pure_ (i := 5) (N := some 9) (v := undef) (a' := ?_) #[true, true, true, true, true, true, false, false, false, false, false, false, false, false, false, false, false, false] rfl rfl (any_of HT_.out (by kernel_rfl)) (fun _ _ _ h => h) (Or.inr ⟨by rfl, rfl⟩) ?_ ?_
    rotate_left
    · simp only [Act.put, List.setIfInBounds_toArray, List.set_cons_zero, List.set_cons_succ, i64_w, i32_w]
      rfl
    refine pure_ (i := 6) (N := some 10) (v := undef) (a' := ?_) #[true, true, true, true, true, true, true, false, false, false, false, false, false, false, false, false, false, false] rfl rfl (any_of HT_.out (by kernel_rfl)) (fun _ _ _ h => h) (Or.inr ⟨by rfl, rfl⟩) ?_ ?_
    rotate_left
    · simp only [Act.put, List.setIfInBounds_toArray, List.set_cons_zero, List.set_cons_succ, i64_w, i32_w]
      rfl
    refine pure_ (i := 7) (N := some 11) (v := undef) (a' := ?_) #[true, true, true, true, true, true, true, true, false, false, false, false, false, false, false, false, false, false] rfl rfl (any_of HT_.out (by kernel_rfl)) (fun _ _ _ h => h) (Or.inr ⟨by rfl, rfl⟩) ?_ ?_
    rotate_left
    · simp only [Act.put, List.setIfInBounds_toArray, List.set_cons_zero, List.set_cons_succ, i64_w, i32_w]
      rfl
    refine pure_ (i := 8) (N := some 12) (v := undef) (a' := ?_) #[true, true, true, true, true, true, true, true, true, false, false, false, false, false, false, false, false, false] rfl rfl (any_of HT_.out (by kernel_rfl)) (fun _ _ _ h => h) (Or.inr ⟨by rfl, rfl⟩) ?_ ?_
    rotate_left
    · simp only [Act.put, List.setIfInBounds_toArray, List.set_cons_zero, List.set_cons_succ, i64_w, i32_w]
      rfl
    refine pure_ (i := 9) (N := some 13) (v := ?_) (a' := ?_) #[true, true, true, true, true, true, true, true, true, true, false, false, false, false, false, false, false, false] rfl rfl (any_of HT_.out (by kernel_rfl)) (fun _ _ _ h => h) (Or.inl ⟨by rfl, ?_⟩) ?_ ?_
    rotate_left
    · intro w'
      go_simp
      with_reducible rfl
    rotate_left
    · simp only [Act.put, List.setIfInBounds_toArray, List.set_cons_zero, List.set_cons_succ, i64_w, i32_w]
      rfl
    refine pure_ (i := 10) (N := some 14) (v := ?_) (a' := ?_) #[true, true, true, true, true, true, true, true, true, true, true, false, false, false, false, false, false, false] rfl rfl (any_of HT_.out (by kernel_rfl)) (fun _ _ _ h => h) (Or.inl ⟨by rfl, ?_⟩) ?_ ?_
    rotate_left
    · intro w'
      go_simp
      with_reducible rfl
    rotate_left
    · simp only [Act.put, List.setIfInBounds_toArray, List.set_cons_zero, List.set_cons_succ, i64_w, i32_w]
      rfl
    refine pure_ (i := 11) (N := some 15) (v := undef) (a' := ?_) #[true, true, true, true, true, true, true, true, true, true, true, true, false, false, false, false, false, false] rfl rfl (any_of HT_.out (by kernel_rfl)) (fun _ _ _ h => h) (Or.inr ⟨by rfl, rfl⟩) ?_ ?_
    rotate_left
    · simp only [Act.put, List.setIfInBounds_toArray, List.set_cons_zero, List.set_cons_succ, i64_w, i32_w]
      rfl
    refine pure_ (i := 12) (N := some 16) (v := undef) (a' := ?_) #[true, true, true, true, true, true, true, true, true, true, true, true, true, false, false, false, false, false] rfl rfl (any_of HT_.out (by kernel_rfl)) (fun _ _ _ h => h) (Or.inr ⟨by rfl, rfl⟩) ?_ ?_
    rotate_left
    · simp only [Act.put, List.setIfInBounds_toArray, List.set_cons_zero, List.set_cons_succ, i64_w, i32_w]
      rfl
    refine pure_ (i := 13) (N := some 17) (v := undef) (a' := ?_) #[true, true, true, true, true, true, true, true, true, true, true, true, true, true, false, false, false, false] rfl rfl (any_of HT_.out (by kernel_rfl)) (fun _ _ _ h => h) (Or.inr ⟨by rfl, rfl⟩) ?_ ?_
    rotate_left
    · simp only [Act.put, List.setIfInBounds_toArray, List.set_cons_zero, List.set_cons_succ, i64_w, i32_w]
      rfl
    refine pure_ (i := 14) (N := some 18) (v := undef) (a' := ?_) #[true, true, true, true, true, true, true, true, true, true, true, true, true, true, true, false, false, false] rfl rfl (any_of HT_.out (by kernel_rfl)) (fun _ _ _ h => h) (Or.inr ⟨by rfl, rfl⟩) ?_ ?_
    rotate_left
    · simp only [Act.put, List.setIfInBounds_toArray, List.set_cons_zero, List.set_cons_succ, i64_w, i32_w]
      rfl
    refine pure_ (i := 15) (N := some 19) (v := undef) (a' := ?_) #[true, true, true, true, true, true, true, true, true, true, true, true, true, true, true, true, false, false] rfl rfl (any_of HT_.out (by kernel_rfl)) (fun _ _ _ h => h) (Or.inr ⟨by rfl, rfl⟩) ?_ ?_
    rotate_left
    · simp only [Act.put, List.setIfInBounds_toArray, List.set_cons_zero, List.set_cons_succ, i64_w, i32_w]
      rfl
    refine pure_ (i := 16) (N := some 20) (v := undef) (a' := ?_) #[true, true, true, true, true, true, true, true, true, true, true, true, true, true, true, true, true, false] rfl rfl (any_of HT_.out (by kernel_rfl)) (fun _ _ _ h => h) (Or.inr ⟨by rfl, rfl⟩) ?_ ?_
    rotate_left
    · simp only [Act.put, List.setIfInBounds_toArray, List.set_cons_zero, List.set_cons_succ, i64_w, i32_w]
      rfl
    refine pure_ (i := 17) (N := some 21) (v := ?_) (a' := ?_) #[true, true, true, true, true, true, true, true, true, true, true, true, true, true, true, true, true, true] rfl rfl (any_of HT_.out (by kernel_rfl)) (fun _ _ _ h => h) (Or.inl ⟨by rfl, ?_⟩) ?_ ?_
    rotate_left
    · intro w'
      go_simp
      with_reducible rfl
    rotate_left
    · simp only [Act.put, List.setIfInBounds_toArray, List.set_cons_zero, List.set_cons_succ, i64_w, i32_w]
      rfl
    refine done_ (done_of HT_.out (by kernel_rfl)) ?_
    (try obtain ⟨c0, f0⟩ := cell_of_new BC.out)
    go_wp2
    refine bodyPost_ret (v := .bool false) ?_ rfl ⟨rfl, ?_⟩
    · simp [results, Tryd.f44, go_sem, c0]
    · exact (by repeat (first | (with_reducible first | exact HB.out | apply below_alloc | apply pw_below_drewN | apply below_drew1 | (refine Below.setCell (p := ⟨cb, 0, none⟩) ?_ (by omega) _)) | exact HB.out))


theorem head_Right.calls (a0 a1 : ByteArray) (r : Bool) (w : World) (hG : Glob w) (h : head_Right.f a0 a1 = some r) :
    Calls Tryd.prog 44 #[.agg #[.string a0, .string a1]] w fun e w' => e = .returned (.bool r) ∧ Below w.heap.size w w' := by
  unfold head_Right.f at h
  by_cases hs : a0.size ≤ 1000000
  · rw [if_pos hs] at h
    by_cases hs1 : a1.size ≤ 1000000
    · rw [if_pos hs1] at h
      have HR := Option.some.inj h
      have hS : head_Show.f a0 a1 = some (Pl.str (Pl.showL (Pl.bs a0) (Pl.bs a1))) := by
        unfold head_Show.f
        rw [if_pos (by omega), if_pos (by omega)]
      have hz : (Pl.str (Pl.showL (Pl.bs a0) (Pl.bs a1))).size ≤ 100000000 := by
        have h1 := Pl.showL_length (Pl.bs a0) (Pl.bs a1)
        rw [Pl.bs_length, Pl.bs_length] at h1
        rw [Pl.str_size]
        omega
      have h1 : right1.f 1000002 a0 a1 = some (Pl.named (Pl.bs a0) && (Pl.textual (Pl.bs a1) && decide (Pl.trim (Pl.bs a1) = Pl.bs a1))) := by
        unfold right1.f
        rw [Pl.headnamed_is a0 (by omega) _ (by omega), Option.bind_some, Pl.headtext_is a1 (by omega) _ (by omega), Option.bind_some, Pl.headtrim_is a1 (by omega), Option.bind_some, Pl.toList_str, Pl.toList_bs]
        cases Pl.named (Pl.bs a0) with
        | false => rfl
        | true =>
          cases Pl.textual (Pl.bs a1) with
          | false => rfl
          | true =>
            by_cases e : Pl.trim (Pl.bs a1) = Pl.bs a1
            · rw [if_pos rfl, if_pos rfl, if_pos e]; simp [e]
            · rw [if_pos rfl, if_pos rfl, if_neg e]; simp [e]
      refine (right_walk 1000002 a0 a1 _ _ w hG hS hz h1).mono ?_
      rintro e w' ⟨rfl, hb⟩
      refine ⟨?_, hb⟩
      rw [← HR]
      unfold Pl.rightL
      simp only [Bool.and_assoc]
    · rw [if_neg hs1] at h; exact absurd h (by simp)
  · rw [if_neg hs] at h; exact absurd h (by simp)
end Go.Proofs.YtlomcmdbbnbciaaDoor.Fn
-- written by xprint.py of this session over the kit's printer; not trusted: Lean checks it
namespace Go.Proofs.YtlomcmdbbnbciaaDoor.Fn
open Go.RowKit Go.Proofs.YtlomcmdbbnbciaaDoorW.PrintWords Go.Proofs.YtlomcmdbbnbciaaDoorW.PrintLast Go.Proofs.YtlomcmdbbnbciaaDoorW.PrintMore
attribute [local go_sem] max2_int min2_int max_two min_two max_three min_three max_four min_four   -- for this text's walks alone
set_option linter.unusedVariables false
set_option linter.unusedSimpArgs false

/-! ### bulletinlaw15_HeadBack: function 12 -/
mutual
def bulletinlaw15_HeadBack.j0 : Nat → List (S59) → ByteArray → Bool → Option (Bool)
 | 0, _, _, _ => none
 | k + 1, x0, x1, x19 => if x19 = true then (some true) else ((bulletinlaw15_To.f k x0).bind fun t619 => (bulletinlaw15_HeadBack.l0 k x0 x1 t619 (t619.length : Int) 0))
def bulletinlaw15_HeadBack.l0 : Nat → List (S59) → ByteArray → List (S60) → Int → Int → Option (Bool)
 | 0, _, _, _, _, _ => none
 | k + 1, x0, x1, x5, x23, x24 => if x24 < x23 then (if 0 ≤ x24 then (if x24 < (x5.length : Int) then ((head_Right.f ((rd_T60 x5 x24).f0) ((rd_T60 x5 x24).f1)).bind fun t623 => (if t623 = true then (bulletinlaw15_HeadBack.l0 k x0 x1 x5 x23 (wrap64 (x24 + 1))) else (some true))) else (none)) else (none)) else ((head_Print.f x5).bind fun t624 => (if t624.size + 2 ≤ 9223372036854775807 then (if (t624 ++ (⟨#[13, 10]⟩ : ByteArray)).size + x1.size ≤ 9223372036854775807 then ((head_Parse.f k ((t624 ++ (⟨#[13, 10]⟩ : ByteArray)) ++ x1)).bind fun bt625 => (if bt625.2.2 = 0 then (if bt625.2.1.toList = x1.toList then ((bulletinlaw15_Same.f k bt625.1 x0).bind fun t630 => (bulletinlaw15_HeadBack.j2 k x0 x5 (!t630))) else (bulletinlaw15_HeadBack.j2 k x0 x5 true)) else (bulletinlaw15_HeadBack.j2 k x0 x5 true))) else (none)) else (none)))
def bulletinlaw15_HeadBack.j2 : Nat → List (S59) → List (S60) → Bool → Option (Bool)
 | 0, _, _, _ => none
 | k + 1, x0, x5, x56 => if x56 = true then (some false) else ((head_Print.f x5).bind fun t631 => ((head_Parse.f k t631).bind fun bt632 => (if bt632.2.2 = 0 then (if bt632.2.1.toList = ([] : List UInt8) then ((bulletinlaw15_Same.f k bt632.1 x0).bind fun t637 => (some t637)) else (some false)) else (some false))))
end
def bulletinlaw15_HeadBack.f (k : Nat) (l0 : List (S59)) (a1 : ByteArray) : Option (Bool) := (bulletinlaw15_works.f k).bind fun t617 => (if t617 = true then ((bulletinlaw15_Light.f k l0).bind fun t618 => (if t618 = true then (bulletinlaw15_HeadBack.j0 k l0 a1 (decide ((a1.size : Int) > 3000))) else (bulletinlaw15_HeadBack.j0 k l0 a1 true))) else (some false))
set_option maxHeartbeats 8000000 in
set_option maxRecDepth 100000 in
theorem bulletinlaw15_HeadBack.calls (k : Nat) (A0 : Option Addr) (c0 : Nat) (l0 : List (S59)) (a1 : ByteArray) (r : Bool) (w : World) (hG : Glob w) (hr0 : Kd.C k59 w A0 l0.length l0) (hc0 : l0.length ≤ c0) (h : bulletinlaw15_HeadBack.f k l0 a1 = some r) :
  Calls Tryd.prog 12 #[.slice A0 l0.length c0, .string a1] w fun e w' => e = .returned (.bool r) ∧ Below w.heap.size w w' := by
 have hu60 := Tryd.underlying60
 have HR0 := Aside0.mk hr0
 have HC0 := Aside0.mk hc0
 clear hr0 hc0
 have HB := Aside0.mk (Below.refl w.heap.size w)
 have H : ((bulletinlaw15_works.f k).bind fun t617 => (if t617 = true then ((bulletinlaw15_Light.f k l0).bind fun t618 => (if t618 = true then (bulletinlaw15_HeadBack.j0 k l0 a1 (decide ((a1.size : Int) > 3000))) else (bulletinlaw15_HeadBack.j0 k l0 a1 true))) else (some false))) = some r := h
 clear h
 replace H := Option.bind_eq_some_iff.mp H
 obtain ⟨t617, A30, H⟩ := H
 replace H : (if t617 = true then ((bulletinlaw15_Light.f k l0).bind fun t618 => (if t618 = true then (bulletinlaw15_HeadBack.j0 k l0 a1 (decide ((a1.size : Int) > 3000))) else (bulletinlaw15_HeadBack.j0 k l0 a1 true))) else (some false)) = some r := H
 have A3 := Aside0.mk A30
 clear A30
 by_cases c4 : t617 = true
 ·subst c4
  have H1 : ((bulletinlaw15_Light.f k l0).bind fun t618 => (if t618 = true then (bulletinlaw15_HeadBack.j0 k l0 a1 (decide ((a1.size : Int) > 3000))) else (bulletinlaw15_HeadBack.j0 k l0 a1 true))) = some r := by rw [if_pos rfl] at H; exact H
  clear H
  have H := H1
  clear H1
  have HC5 := Aside0.mk H
  clear H
  go_enter Tryd.func12, Tryd.ntmps12
  go_upto_region 3 with (first | ((with_reducible refine gate_callee (f := 40) rfl ?_); refine goesL_ (some 10) rfl rfl Tryd.func40 (by kernel_rfl) rfl #[] rfl am ?_; (with_reducible refine (bulletinlaw15_works.calls (hG := by first | exact hG | exact Glob.below hG (by first | exact HB.out | (repeat (first | (with_reducible first | exact HB.out | apply below_alloc | apply pw_below_drewN | apply below_drew1) | exact HB.out))) | exact Glob.drawn hG (by repeat (first | exact Drawn0.refl _ | apply Drawn0.step))) k  true _ A3.out).mono ?_); rintro e w6 ⟨rfl, hb⟩; refine ⟨_, rfl, ?_⟩; have n0_ := Aside0.mk (below_step bw hb); clear HB; have HB := n0_; clear n0_; (try clear hb); (try clear hb2); (try clear hk); (try clear hi)))
  (try simp only [Act.put, List.setIfInBounds_toArray, List.set_cons_zero, List.set_cons_succ])
  go_cut [19] (fun v19 wc => ∃ (kq : Nat) (x19_4 : Bool), v19 = .bool x19_4 ∧ Aside0 (bulletinlaw15_HeadBack.j0 kq l0 a1 x19_4 = some r) ∧ Aside0 (kq ≤ k) ∧ Aside0 (Below w.heap.size w wc))
  case first =>
   have H := HC5.out
   clear HC5
   replace H := Option.bind_eq_some_iff.mp H
   obtain ⟨t618, A70, H⟩ := H
   replace H : (if t618 = true then (bulletinlaw15_HeadBack.j0 k l0 a1 (decide ((a1.size : Int) > 3000))) else (bulletinlaw15_HeadBack.j0 k l0 a1 true)) = some r := H
   have A7 := Aside0.mk A70
   clear A70
   by_cases c8 : t618 = true
   ·subst c8
    have H1 : (bulletinlaw15_HeadBack.j0 k l0 a1 (decide ((a1.size : Int) > 3000))) = some r := by rw [if_pos rfl] at H; exact H
    clear H
    have H := H1
    clear H1
    have H' := Aside0.mk H
    clear H
    go_wp2_with (first | ((with_reducible refine gate_callee (f := 46) rfl ?_); refine goesL_ (some 13) rfl rfl Tryd.func46 (by kernel_rfl) rfl #[.slice A0 l0.length c0] rfl am ?_; (with_reducible refine (bulletinlaw15_Light.calls k _ _ l0 true _ ?side1 ?side2 A7.out).mono ?_); (case side1 => repeat (first | exact (Kd.C_below HR0.out HB.out) | (with_reducible refine Kd.C_alloc ?_ _) | (with_reducible refine Kd.C_drewN ?_ _) | (with_reducible refine Kd.C_drew ?_))); (case side2 => exact HC0.out); rintro e w' ⟨rfl, ⟨nd, rfl⟩⟩; refine ⟨_, rfl, ?_⟩))
    go_meet
    case rel => exact ⟨_, (decide ((a1.size : Int) > 3000)), cl, H', ⟨by first | omega | exact Nat.le_refl _⟩, ⟨by repeat (first | (with_reducible first | exact HB.out | apply below_alloc | apply pw_below_drewN | apply below_drew1) | exact HB.out)⟩⟩
   ·replace c8 := Bool.eq_false_iff.mpr c8
    subst c8
    have H1 : (bulletinlaw15_HeadBack.j0 k l0 a1 true) = some r := by rw [if_neg (show ¬ (false = true) by decide)] at H; exact H
    clear H
    have H := H1
    clear H1
    have H' := Aside0.mk H
    clear H
    go_wp2_with (first | ((with_reducible refine gate_callee (f := 46) rfl ?_); refine goesL_ (some 13) rfl rfl Tryd.func46 (by kernel_rfl) rfl #[.slice A0 l0.length c0] rfl am ?_; (with_reducible refine (bulletinlaw15_Light.calls k _ _ l0 false _ ?side1 ?side2 A7.out).mono ?_); (case side1 => repeat (first | exact (Kd.C_below HR0.out HB.out) | (with_reducible refine Kd.C_alloc ?_ _) | (with_reducible refine Kd.C_drewN ?_ _) | (with_reducible refine Kd.C_drew ?_))); (case side2 => exact HC0.out); rintro e w' ⟨rfl, ⟨nd, rfl⟩⟩; refine ⟨_, rfl, ?_⟩))
    go_meet
    case rel => exact ⟨_, (true), cl, H', ⟨by first | omega | exact Nat.le_refl _⟩, ⟨by repeat (first | (with_reducible first | exact HB.out | apply below_alloc | apply pw_below_drewN | apply below_drew1) | exact HB.out)⟩⟩
  case rest =>
   clear HC5
   try clear c1
   try clear p2
   try clear c4
   try clear c8
   obtain ⟨kq, x19_4, rfl, HA, HJ4, HB⟩ := hcut
   cases kq with
   | zero => exact absurd HA.out (by simp [bulletinlaw15_HeadBack.j0])
   | succ kj4 =>
    have H := HA.out
    clear HA
    simp only [bulletinlaw15_HeadBack.j0] at H
    by_cases c9 : x19_4 = true
    ·subst c9
     have H1 : (some true) = some r := by rw [if_pos rfl] at H; exact H
     clear H
     have H := H1
     clear H1
     obtain rfl := Option.some.inj H
     go_wp2
     go_ret
     exact ⟨by first | rfl | (simp [errW_none, errW_some] <;> rfl) | (simp [*, errW_none, errW_some] <;> rfl), by repeat (first | (with_reducible first | exact HB.out | apply below_alloc | apply pw_below_drewN | apply below_drew1) | exact HB.out)⟩
    ·replace c9 := Bool.eq_false_iff.mpr c9
     subst c9
     have H1 : ((bulletinlaw15_To.f kj4 l0).bind fun t619 => (bulletinlaw15_HeadBack.l0 kj4 l0 a1 t619 (t619.length : Int) 0)) = some r := by rw [if_neg (show ¬ (false = true) by decide)] at H; exact H
     clear H
     have H := H1
     clear H1
     replace H := Option.bind_eq_some_iff.mp H
     obtain ⟨t619, A100, H⟩ := H
     replace H : (bulletinlaw15_HeadBack.l0 kj4 l0 a1 t619 (t619.length : Int) 0) = some r := H
     have A10 := Aside0.mk A100
     clear A100
     have H' := Aside0.mk H
     clear H
     go_wp2_with (first | ((with_reducible refine gate_callee (f := 47) rfl ?_); refine goesL_ (some 21) rfl rfl Tryd.func47 (by kernel_rfl) rfl #[.slice A0 l0.length c0] rfl am ?_; (with_reducible refine (bulletinlaw15_To.calls kj4 _ _ l0 t619 _ ?side1 ?side2 A10.out).mono ?_); (case side1 => repeat (first | exact (Kd.C_below HR0.out HB.out) | (with_reducible refine Kd.C_alloc ?_ _) | (with_reducible refine Kd.C_drewN ?_ _) | (with_reducible refine Kd.C_drew ?_))); (case side2 => exact HC0.out); rintro e w11 ⟨v620, rfl, ho0, hb⟩; refine ⟨_, rfl, ?_⟩; have n0_ := Aside0.mk (Kd.R_lower ho0 (below_size bw)); have n1_ := Aside0.mk (below_step bw hb); clear HB; have HO621 := n0_; have HB := n1_; clear n0_ n1_; (try clear hb); (try clear hb2); (try clear hk); (try clear hi); (try clear ho0); obtain ⟨Ao12, co12, eo12⟩ := Kd.R_slice HO621.out; subst eo12))
     go_loopg [24] kj4 (fun kq v24 w' => ∃ (x24_2 : Int), v24 = .int .i64 x24_2 ∧ Aside0 (bulletinlaw15_HeadBack.l0 kq l0 a1 t619 (t619.length : Int) x24_2 = some r) ∧ Aside0 (kq ≤ kj4) ∧ Aside0 (Kd.R k60 60 w' w.heap.size (fun _ => True) (.slice Ao12 t619.length co12) t619) ∧ Aside0 (Below w.heap.size w w'))
     case atStart => exact ⟨(0), cl, H', ⟨Nat.le_refl _⟩, ⟨by (with_reducible repeat (first | apply Kd.R_alloc | apply Kd.R_drewN | apply Kd.R_drew)); exact HO621.out⟩, ⟨by repeat (first | (with_reducible first | exact HB.out | apply below_alloc | apply pw_below_drewN | apply below_drew1) | exact HB.out)⟩⟩
     case round =>
      clear H'
      try clear c1
      try clear p2
      try clear c4
      try clear c8
      try clear c9
      try clear c12
      try clear p2
      obtain ⟨x24_2, rfl, HA, HK2, HO_5, HB⟩ := hrel
      cases gk with
      | zero => exact absurd HA.out (by simp [bulletinlaw15_HeadBack.l0])
      | succ k2 =>
       have H := HA.out
       clear HA
       simp only [bulletinlaw15_HeadBack.l0] at H
       by_cases c13 : x24_2 < (t619.length : Int)
       ·rw [if_pos c13] at H
        have c13b0 : decide (x24_2 < (t619.length : Int)) = true := decide_eq_true c13
        clear c13
        by_cases c14 : 0 ≤ x24_2
        ·rw [if_pos c14] at H
         have c14b0 : decide (0 ≤ x24_2) = true := decide_eq_true c14
         clear c14
         by_cases c15 : x24_2 < (t619.length : Int)
         ·rw [if_pos c15] at H
          have c15b0 : decide (x24_2 < (t619.length : Int)) = true := decide_eq_true c15
          clear c15
          replace H := Option.bind_eq_some_iff.mp H
          obtain ⟨t623, A160, H⟩ := H
          replace H : (if t623 = true then (bulletinlaw15_HeadBack.l0 k2 l0 a1 t619 (t619.length : Int) (wrap64 (x24_2 + 1))) else (some true)) = some r := H
          have A16 := Aside0.mk A160
          clear A160
          by_cases c17 : t623 = true
          ·subst c17
           have H1 : (bulletinlaw15_HeadBack.l0 k2 l0 a1 t619 (t619.length : Int) (wrap64 (x24_2 + 1))) = some r := by rw [if_pos rfl] at H; exact H
           clear H
           have H := H1
           clear H1
           have H' := Aside0.mk H
           clear H
           have p622 : 0 ≤ (x24_2 : Int) := od
           have q622 : x24_2 < (t619.length : Int) := od
           obtain ⟨ad622, e622, hx622_0, hx622_1⟩ := at_T60 (Kd.R_reads' HO_5.out).2.2 x24_2 p622 q622
           cases e622
           replace p622 := eq_true p622
           replace q622 := eq_true q622
           go_wp2_with (first | ((with_reducible refine gate_callee (f := 44) rfl ?_); refine goesL_ (some 31) rfl rfl Tryd.func44 (by kernel_rfl) rfl #[.agg #[.string ((rd_T60 t619 x24_2).f0), .string ((rd_T60 t619 x24_2).f1)]] rfl am ?_; (with_reducible refine (head_Right.calls (hG := by first | exact hG | exact Glob.below hG (by first | exact HB.out | (repeat (first | (with_reducible first | exact HB.out | apply below_alloc | apply pw_below_drewN | apply below_drew1) | exact HB.out))) | exact Glob.drawn hG (by repeat (first | exact Drawn0.refl _ | apply Drawn0.step))) ((rd_T60 t619 x24_2).f0) ((rd_T60 t619 x24_2).f1) true _ A16.out).mono ?_); rintro e w18 ⟨rfl, hb⟩; refine ⟨_, rfl, ?_⟩; have n0_ := Aside0.mk (Kd.R_below (by (with_reducible repeat (first | apply Kd.R_alloc | apply Kd.R_drewN | apply Kd.R_drew)); exact HO_5.out) hb); have n1_ := Aside0.mk (below_step bw hb); clear HO_5; clear HB; have HO_5 := n0_; have HB := n1_; clear n0_ n1_; (try clear hb); (try clear hb2); (try clear hk); (try clear hi)))
           go_roundg k2
           case measure => have := HJ4.out; have := HK2.out; omega
           case rel => exact ⟨(wrap64 (x24_2 + 1)), cl, H', ⟨by have := HJ4.out; have := HK2.out; omega⟩, ⟨by (with_reducible repeat (first | apply Kd.R_alloc | apply Kd.R_drewN | apply Kd.R_drew)); exact HO_5.out⟩, ⟨by repeat (first | (with_reducible first | exact HB.out | apply below_alloc | apply pw_below_drewN | apply below_drew1) | exact HB.out)⟩⟩
          ·replace c17 := Bool.eq_false_iff.mpr c17
           subst c17
           have H1 : (some true) = some r := by rw [if_neg (show ¬ (false = true) by decide)] at H; exact H
           clear H
           have H := H1
           clear H1
           obtain rfl := Option.some.inj H
           have p622 : 0 ≤ (x24_2 : Int) := od
           have q622 : x24_2 < (t619.length : Int) := od
           obtain ⟨ad622, e622, hx622_0, hx622_1⟩ := at_T60 (Kd.R_reads' HO_5.out).2.2 x24_2 p622 q622
           cases e622
           replace p622 := eq_true p622
           replace q622 := eq_true q622
           go_wp2_with (first | ((with_reducible refine gate_callee (f := 44) rfl ?_); refine goesL_ (some 31) rfl rfl Tryd.func44 (by kernel_rfl) rfl #[.agg #[.string ((rd_T60 t619 x24_2).f0), .string ((rd_T60 t619 x24_2).f1)]] rfl am ?_; (with_reducible refine (head_Right.calls (hG := by first | exact hG | exact Glob.below hG (by first | exact HB.out | (repeat (first | (with_reducible first | exact HB.out | apply below_alloc | apply pw_below_drewN | apply below_drew1) | exact HB.out))) | exact Glob.drawn hG (by repeat (first | exact Drawn0.refl _ | apply Drawn0.step))) ((rd_T60 t619 x24_2).f0) ((rd_T60 t619 x24_2).f1) false _ A16.out).mono ?_); rintro e w19 ⟨rfl, hb⟩; refine ⟨_, rfl, ?_⟩; have n0_ := Aside0.mk (Kd.R_below (by (with_reducible repeat (first | apply Kd.R_alloc | apply Kd.R_drewN | apply Kd.R_drew)); exact HO_5.out) hb); have n1_ := Aside0.mk (below_step bw hb); clear HO_5; clear HB; have HO_5 := n0_; have HB := n1_; clear n0_ n1_; (try clear hb); (try clear hb2); (try clear hk); (try clear hi)))
           go_ret
           exact ⟨by first | rfl | (simp [errW_none, errW_some] <;> rfl) | (simp [*, errW_none, errW_some] <;> rfl), by repeat (first | (with_reducible first | exact HB.out | apply below_alloc | apply pw_below_drewN | apply below_drew1) | exact HB.out)⟩
         ·rw [if_neg c15] at H
          exact absurd H (by simp)
        ·rw [if_neg c14] at H
         exact absurd H (by simp)
       ·rw [if_neg c13] at H
        have c13b0 : decide (x24_2 < (t619.length : Int)) = false := decide_eq_false c13
        clear c13
        replace H := Option.bind_eq_some_iff.mp H
        obtain ⟨t624, A200, H⟩ := H
        replace H : (if t624.size + 2 ≤ 9223372036854775807 then (if (t624 ++ (⟨#[13, 10]⟩ : ByteArray)).size + a1.size ≤ 9223372036854775807 then ((head_Parse.f k2 ((t624 ++ (⟨#[13, 10]⟩ : ByteArray)) ++ a1)).bind fun bt625 => (if bt625.2.2 = 0 then (if bt625.2.1.toList = a1.toList then ((bulletinlaw15_Same.f k2 bt625.1 l0).bind fun t630 => (bulletinlaw15_HeadBack.j2 k2 l0 t619 (!t630))) else (bulletinlaw15_HeadBack.j2 k2 l0 t619 true)) else (bulletinlaw15_HeadBack.j2 k2 l0 t619 true))) else (none)) else (none)) = some r := H
        have A20 := Aside0.mk A200
        clear A200
        by_cases c21 : t624.size + 2 ≤ 9223372036854775807
        ·rw [if_pos c21] at H
         have c21b0 := eq_true c21
         have c21b1 : decide (t624.size + 2 ≤ 9223372036854775807) = true := decide_eq_true c21
         try have c21b2 : (9223372036854775807 < t624.size + 2) = False := eq_false (Nat.not_lt.2 c21)
         by_cases c22 : (t624 ++ (⟨#[13, 10]⟩ : ByteArray)).size + a1.size ≤ 9223372036854775807
         ·rw [if_pos c22] at H
          have c22b0 := eq_true c22
          have c22b1 : decide ((t624 ++ (⟨#[13, 10]⟩ : ByteArray)).size + a1.size ≤ 9223372036854775807) = true := decide_eq_true c22
          try have c22b2 : (9223372036854775807 < (t624 ++ (⟨#[13, 10]⟩ : ByteArray)).size + a1.size) = False := eq_false (Nat.not_lt.2 c22)
          try (have c22b3 := c22; simp only [ByteArray.size_append, size_lit, ByteArray.size_extract, List.size_toArray, List.length_cons, List.length_nil, Nat.zero_add, Nat.reduceAdd] at c22b3; have c22b4 := eq_false (Nat.not_lt.2 c22b3))
          replace H := Option.bind_eq_some_iff.mp H
          obtain ⟨⟨t625, t626, t627⟩, A230, H⟩ := H
          replace H : (if t627 = 0 then (if t626.toList = a1.toList then ((bulletinlaw15_Same.f k2 t625 l0).bind fun t630 => (bulletinlaw15_HeadBack.j2 k2 l0 t619 (!t630))) else (bulletinlaw15_HeadBack.j2 k2 l0 t619 true)) else (bulletinlaw15_HeadBack.j2 k2 l0 t619 true)) = some r := H
          have A23 := Aside0.mk A230
          clear A230
          have HC24 := Aside0.mk H
          clear H
          go_upto_region 13 with (first | ((with_reducible refine gate_callee (f := 48) rfl ?_); refine goesL_ (some 36) rfl rfl Tryd.func48 (by kernel_rfl) rfl #[.slice Ao12 t619.length co12] rfl am ?_; (with_reducible refine (head_Print.calls _ _ t619 t624 _ ?side1 ?side2 A20.out).mono ?_); (case side1 => repeat (first | exact (Kd.R_reads' HO_5.out).2.2 | (with_reducible refine Kd.C_alloc ?_ _) | (with_reducible refine Kd.C_drewN ?_ _) | (with_reducible refine Kd.C_drew ?_))); (case side2 => exact (Kd.R_reads' HO_5.out).2.1); rintro e w25 ⟨rfl, hb⟩; refine ⟨_, rfl, ?_⟩; have n0_ := Aside0.mk (Kd.R_below (by (with_reducible repeat (first | apply Kd.R_alloc | apply Kd.R_drewN | apply Kd.R_drew)); exact HO_5.out) hb); have n1_ := Aside0.mk (below_step bw hb); clear HO_5; clear HB; have HO_5 := n0_; have HB := n1_; clear n0_ n1_; (try clear hb); (try clear hb2); (try clear hk); (try clear hi)) | ((with_reducible refine gate_callee (f := 41) rfl ?_); refine goesL_ (some 40) rfl rfl Tryd.func41 (by kernel_rfl) rfl #[.string ((t624 ++ (⟨#[13, 10]⟩ : ByteArray)) ++ a1)] rfl am ?_; (with_reducible refine (head_Parse.calls (hG := by first | exact hG | exact Glob.below hG (by first | exact HB.out | (repeat (first | (with_reducible first | exact HB.out | apply below_alloc | apply pw_below_drewN | apply below_drew1) | exact HB.out))) | exact Glob.drawn hG (by repeat (first | exact Drawn0.refl _ | apply Drawn0.step))) k2 ((t624 ++ (⟨#[13, 10]⟩ : ByteArray)) ++ a1) t625 t626 t627 _ A23.out).mono ?_); rintro e w26 ⟨v628, rfl, ho0, hb⟩; refine ⟨_, rfl, ?_⟩; have n0_ := Aside0.mk (Kd.R_elder' (by (with_reducible repeat (first | apply Kd.R_alloc | apply Kd.R_drewN | apply Kd.R_drew)); exact HO_5.out) (Kd.R_base ho0) hb); have n1_ := Aside0.mk (Kd.R_lower (Kd.R_new' ho0 (Kd.R_lt (by (with_reducible repeat (first | apply Kd.R_alloc | apply Kd.R_drewN | apply Kd.R_drew)); exact HO_5.out))) (below_size bw)); have n2_ := Aside0.mk (below_step bw hb); clear HO_5; clear HB; have HO_5 := n0_; have HO629 := n1_; have HB := n2_; clear n0_ n1_ n2_; (try clear hb); (try clear hb2); (try clear hk); (try clear hi); (try clear ho0)))
          (try simp only [Act.put, List.setIfInBounds_toArray, List.set_cons_zero, List.set_cons_succ])
          go_cut [56] (fun v56 wc => ∃ (kq : Nat) (x56_23 : Bool), v56 = .bool x56_23 ∧ Aside0 (bulletinlaw15_HeadBack.j2 kq l0 t619 x56_23 = some r) ∧ Aside0 (kq ≤ k2) ∧ Aside0 (Kd.R k60 60 wc w.heap.size (fun _ => True) (.slice Ao12 t619.length co12) t619) ∧ Aside0 (Below w.heap.size w wc))
          case first =>
           have H := HC24.out
           clear HC24
           by_cases c27 : t627 = 0
           ·rw [if_pos c27] at H
            have c27b0 : (t627 == 0) = true := beq_iff_eq.mpr c27
            have c27b1 : (t627 != 0) = false := bne_eq_false_iff_eq.mpr c27
            clear c27
            (first | rw [c27b0] | (simp only [i64_w, i32_w]; rw [c27b0]) | skip)
            by_cases c28 : t626.toList = a1.toList
            ·rw [if_pos c28] at H
             have c28b0 : (t626.toList == a1.toList) = true := beq_iff_eq.mpr c28
             have c28b1 : (t626.toList != a1.toList) = false := bne_eq_false_iff_eq.mpr c28
             clear c28
             replace H := Option.bind_eq_some_iff.mp H
             obtain ⟨t630, A290, H⟩ := H
             replace H : (bulletinlaw15_HeadBack.j2 k2 l0 t619 (!t630)) = some r := H
             have A29 := Aside0.mk A290
             clear A290
             have H' := Aside0.mk H
             clear H
             obtain ⟨Ao30, co30, eo30⟩ := Kd.R_slice HO629.out
             subst eo30
             go_wp2_with (first | (go_at_call 43; (with_reducible refine (bulletinlaw15_Same.calls k2 _ _ t625 _ _ l0 t630 _ ?side1 ?side2 ?side3 ?side4 A29.out).mono ?_); (case side1 => repeat (first | exact (Kd.R_reads' HO629.out).2.2 | (with_reducible refine Kd.C_alloc ?_ _) | (with_reducible refine Kd.C_drewN ?_ _) | (with_reducible refine Kd.C_drew ?_))); (case side2 => exact (Kd.R_reads' HO629.out).2.1); (case side3 => repeat (first | exact (Kd.C_below HR0.out HB.out) | (with_reducible refine Kd.C_alloc ?_ _) | (with_reducible refine Kd.C_drewN ?_ _) | (with_reducible refine Kd.C_drew ?_))); (case side4 => exact HC0.out); rintro e w' ⟨rfl, ⟨nd, rfl⟩⟩))
             go_meet
             case rel => exact ⟨_, (!t630), cl, H', ⟨by have := HJ4.out; have := HK2.out; first | omega | exact Nat.le_refl _⟩, ⟨by (with_reducible repeat (first | apply Kd.R_alloc | apply Kd.R_drewN | apply Kd.R_drew)); exact Kd.R_mono HO_5.out (fun _ hk => trivial)⟩, ⟨by repeat (first | (with_reducible first | exact HB.out | apply below_alloc | apply pw_below_drewN | apply below_drew1) | exact HB.out)⟩⟩
            ·rw [if_neg c28] at H
             have c28b0 : (t626.toList == a1.toList) = false := beq_eq_false_iff_ne.mpr c28
             have c28b1 : (t626.toList != a1.toList) = true := bne_iff_ne.mpr c28
             have H' := Aside0.mk H
             clear H
             go_wp2
             go_meet
             case rel => exact ⟨_, (true), cl, H', ⟨by have := HJ4.out; have := HK2.out; first | omega | exact Nat.le_refl _⟩, ⟨by (with_reducible repeat (first | apply Kd.R_alloc | apply Kd.R_drewN | apply Kd.R_drew)); exact Kd.R_mono HO_5.out (fun _ hk => trivial)⟩, ⟨by repeat (first | (with_reducible first | exact HB.out | apply below_alloc | apply pw_below_drewN | apply below_drew1) | exact HB.out)⟩⟩
           ·rw [if_neg c27] at H
            have c27b0 : (t627 == 0) = false := beq_eq_false_iff_ne.mpr c27
            have c27b1 : (t627 != 0) = true := bne_iff_ne.mpr c27
            (first | rw [c27b0] | (simp only [i64_w, i32_w]; rw [c27b0]) | skip)
            have H' := Aside0.mk H
            clear H
            go_wp2
            go_meet
            case rel => exact ⟨_, (true), cl, H', ⟨by have := HJ4.out; have := HK2.out; first | omega | exact Nat.le_refl _⟩, ⟨by (with_reducible repeat (first | apply Kd.R_alloc | apply Kd.R_drewN | apply Kd.R_drew)); exact Kd.R_mono HO_5.out (fun _ hk => trivial)⟩, ⟨by repeat (first | (with_reducible first | exact HB.out | apply below_alloc | apply pw_below_drewN | apply below_drew1) | exact HB.out)⟩⟩
          case rest =>
           clear HC24
           try clear c1
           try clear c2
           try clear p2
           try clear c4
           try clear p6
           try clear q6
           try clear hx6
           try clear c8
           try clear c9
           try clear c12
           try clear c13
           try clear c13b0
           try clear c14
           try clear c14b0
           try clear c15
           try clear c15b0
           try clear c17
           try clear c21
           try clear c21b0
           try clear c21b1
           try clear c21b2
           try clear c22
           try clear c22b0
           try clear c22b1
           try clear c22b2
           try clear c27
           try clear c27b0
           try clear c27b1
           try clear c28
           try clear c28b0
           try clear c28b1
           try clear hx622_0
           try clear hx622_1
           try clear p2
           try clear p622
           try clear q622
           obtain ⟨kq, x56_23, rfl, HA, HJ23, HO_5, HB⟩ := hcut
           cases kq with
           | zero => exact absurd HA.out (by simp [bulletinlaw15_HeadBack.j2])
           | succ kj23 =>
            have H := HA.out
            clear HA
            simp only [bulletinlaw15_HeadBack.j2] at H
            by_cases c31 : x56_23 = true
            ·subst c31
             have H1 : (some false) = some r := by rw [if_pos rfl] at H; exact H
             clear H
             have H := H1
             clear H1
             obtain rfl := Option.some.inj H
             go_wp2
             go_ret
             exact ⟨by first | rfl | (simp [errW_none, errW_some] <;> rfl) | (simp [*, errW_none, errW_some] <;> rfl), by repeat (first | (with_reducible first | exact HB.out | apply below_alloc | apply pw_below_drewN | apply below_drew1) | exact HB.out)⟩
            ·replace c31 := Bool.eq_false_iff.mpr c31
             subst c31
             have H1 : ((head_Print.f t619).bind fun t631 => ((head_Parse.f kj23 t631).bind fun bt632 => (if bt632.2.2 = 0 then (if bt632.2.1.toList = ([] : List UInt8) then ((bulletinlaw15_Same.f kj23 bt632.1 l0).bind fun t637 => (some t637)) else (some false)) else (some false)))) = some r := by rw [if_neg (show ¬ (false = true) by decide)] at H; exact H
             clear H
             have H := H1
             clear H1
             replace H := Option.bind_eq_some_iff.mp H
             obtain ⟨t631, A320, H⟩ := H
             replace H : ((head_Parse.f kj23 t631).bind fun bt632 => (if bt632.2.2 = 0 then (if bt632.2.1.toList = ([] : List UInt8) then ((bulletinlaw15_Same.f kj23 bt632.1 l0).bind fun t637 => (some t637)) else (some false)) else (some false))) = some r := H
             have A32 := Aside0.mk A320
             clear A320
             replace H := Option.bind_eq_some_iff.mp H
             obtain ⟨⟨t632, t633, t634⟩, A330, H⟩ := H
             replace H : (if t634 = 0 then (if t633.toList = ([] : List UInt8) then ((bulletinlaw15_Same.f kj23 t632 l0).bind fun t637 => (some t637)) else (some false)) else (some false)) = some r := H
             have A33 := Aside0.mk A330
             clear A330
             by_cases c34 : t634 = 0
             ·rw [if_pos c34] at H
              have c34b0 : (t634 == 0) = true := beq_iff_eq.mpr c34
              have c34b1 : (t634 != 0) = false := bne_eq_false_iff_eq.mpr c34
              clear c34
              by_cases c35 : t633.toList = ([] : List UInt8)
              ·rw [if_pos c35] at H
               have c35b0 : (t633.toList == ([] : List UInt8)) = true := beq_iff_eq.mpr c35
               have c35b1 : (t633.toList != ([] : List UInt8)) = false := bne_eq_false_iff_eq.mpr c35
               clear c35
               replace H := Option.bind_eq_some_iff.mp H
               obtain ⟨t637, A360, H⟩ := H
               replace H : (some t637) = some r := H
               have A36 := Aside0.mk A360
               clear A360
               obtain rfl := Option.some.inj H
               go_wp2_with (first | ((with_reducible refine gate_callee (f := 48) rfl ?_); refine goesL_ (some 59) rfl rfl Tryd.func48 (by kernel_rfl) rfl #[.slice Ao12 t619.length co12] rfl am ?_; (with_reducible refine (head_Print.calls _ _ t619 t631 _ ?side1 ?side2 A32.out).mono ?_); (case side1 => repeat (first | exact (Kd.R_reads' HO_5.out).2.2 | (with_reducible refine Kd.C_alloc ?_ _) | (with_reducible refine Kd.C_drewN ?_ _) | (with_reducible refine Kd.C_drew ?_))); (case side2 => exact (Kd.R_reads' HO_5.out).2.1); rintro e w37 ⟨rfl, hb⟩; refine ⟨_, rfl, ?_⟩; have n0_ := Aside0.mk (Kd.R_below (by (with_reducible repeat (first | apply Kd.R_alloc | apply Kd.R_drewN | apply Kd.R_drew)); exact HO_5.out) hb); have n1_ := Aside0.mk (below_step bw hb); clear HO_5; clear HB; have HO_5 := n0_; have HB := n1_; clear n0_ n1_; (try clear hb); (try clear hb2); (try clear hk); (try clear hi)) | ((with_reducible refine gate_callee (f := 41) rfl ?_); refine goesL_ (some 60) rfl rfl Tryd.func41 (by kernel_rfl) rfl #[.string t631] rfl am ?_; (with_reducible refine (head_Parse.calls (hG := by first | exact hG | exact Glob.below hG (by first | exact HB.out | (repeat (first | (with_reducible first | exact HB.out | apply below_alloc | apply pw_below_drewN | apply below_drew1) | exact HB.out))) | exact Glob.drawn hG (by repeat (first | exact Drawn0.refl _ | apply Drawn0.step))) kj23 t631 t632 t633 t634 _ A33.out).mono ?_); rintro e w38 ⟨v635, rfl, ho0, hb⟩; refine ⟨_, rfl, ?_⟩; have n0_ := Aside0.mk (Kd.R_elder' (by (with_reducible repeat (first | apply Kd.R_alloc | apply Kd.R_drewN | apply Kd.R_drew)); exact HO_5.out) (Kd.R_base ho0) hb); have n1_ := Aside0.mk (Kd.R_lower (Kd.R_new' ho0 (Kd.R_lt (by (with_reducible repeat (first | apply Kd.R_alloc | apply Kd.R_drewN | apply Kd.R_drew)); exact HO_5.out))) (below_size bw)); have n2_ := Aside0.mk (below_step bw hb); clear HO_5; clear HB; have HO_5 := n0_; have HO636 := n1_; have HB := n2_; clear n0_ n1_ n2_; (try clear hb); (try clear hb2); (try clear hk); (try clear hi); (try clear ho0); obtain ⟨Ao39, co39, eo39⟩ := Kd.R_slice HO636.out; subst eo39) | (go_at_call 43; (with_reducible refine (bulletinlaw15_Same.calls kj23 _ _ t632 _ _ l0 t637 _ ?side1 ?side2 ?side3 ?side4 A36.out).mono ?_); (case side1 => repeat (first | exact (Kd.R_reads' HO636.out).2.2 | (with_reducible refine Kd.C_alloc ?_ _) | (with_reducible refine Kd.C_drewN ?_ _) | (with_reducible refine Kd.C_drew ?_))); (case side2 => exact (Kd.R_reads' HO636.out).2.1); (case side3 => repeat (first | exact (Kd.C_below HR0.out HB.out) | (with_reducible refine Kd.C_alloc ?_ _) | (with_reducible refine Kd.C_drewN ?_ _) | (with_reducible refine Kd.C_drew ?_))); (case side4 => exact HC0.out); rintro e w' ⟨rfl, ⟨nd, rfl⟩⟩))
               go_ret
               exact ⟨by first | rfl | (simp [errW_none, errW_some] <;> rfl) | (simp [*, errW_none, errW_some] <;> rfl), by repeat (first | (with_reducible first | exact HB.out | apply below_alloc | apply pw_below_drewN | apply below_drew1) | exact HB.out)⟩
              ·rw [if_neg c35] at H
               have c35b0 : (t633.toList == ([] : List UInt8)) = false := beq_eq_false_iff_ne.mpr c35
               have c35b1 : (t633.toList != ([] : List UInt8)) = true := bne_iff_ne.mpr c35
               obtain rfl := Option.some.inj H
               go_wp2_with (first | ((with_reducible refine gate_callee (f := 48) rfl ?_); refine goesL_ (some 59) rfl rfl Tryd.func48 (by kernel_rfl) rfl #[.slice Ao12 t619.length co12] rfl am ?_; (with_reducible refine (head_Print.calls _ _ t619 t631 _ ?side1 ?side2 A32.out).mono ?_); (case side1 => repeat (first | exact (Kd.R_reads' HO_5.out).2.2 | (with_reducible refine Kd.C_alloc ?_ _) | (with_reducible refine Kd.C_drewN ?_ _) | (with_reducible refine Kd.C_drew ?_))); (case side2 => exact (Kd.R_reads' HO_5.out).2.1); rintro e w40 ⟨rfl, hb⟩; refine ⟨_, rfl, ?_⟩; have n0_ := Aside0.mk (Kd.R_below (by (with_reducible repeat (first | apply Kd.R_alloc | apply Kd.R_drewN | apply Kd.R_drew)); exact HO_5.out) hb); have n1_ := Aside0.mk (below_step bw hb); clear HO_5; clear HB; have HO_5 := n0_; have HB := n1_; clear n0_ n1_; (try clear hb); (try clear hb2); (try clear hk); (try clear hi)) | ((with_reducible refine gate_callee (f := 41) rfl ?_); refine goesL_ (some 60) rfl rfl Tryd.func41 (by kernel_rfl) rfl #[.string t631] rfl am ?_; (with_reducible refine (head_Parse.calls (hG := by first | exact hG | exact Glob.below hG (by first | exact HB.out | (repeat (first | (with_reducible first | exact HB.out | apply below_alloc | apply pw_below_drewN | apply below_drew1) | exact HB.out))) | exact Glob.drawn hG (by repeat (first | exact Drawn0.refl _ | apply Drawn0.step))) kj23 t631 t632 t633 t634 _ A33.out).mono ?_); rintro e w41 ⟨v635, rfl, ho0, hb⟩; refine ⟨_, rfl, ?_⟩; have n0_ := Aside0.mk (Kd.R_elder' (by (with_reducible repeat (first | apply Kd.R_alloc | apply Kd.R_drewN | apply Kd.R_drew)); exact HO_5.out) (Kd.R_base ho0) hb); have n1_ := Aside0.mk (Kd.R_lower (Kd.R_new' ho0 (Kd.R_lt (by (with_reducible repeat (first | apply Kd.R_alloc | apply Kd.R_drewN | apply Kd.R_drew)); exact HO_5.out))) (below_size bw)); have n2_ := Aside0.mk (below_step bw hb); clear HO_5; clear HB; have HO_5 := n0_; have HO636 := n1_; have HB := n2_; clear n0_ n1_ n2_; (try clear hb); (try clear hb2); (try clear hk); (try clear hi); (try clear ho0)))
               go_ret
               exact ⟨by first | rfl | (simp [errW_none, errW_some] <;> rfl) | (simp [*, errW_none, errW_some] <;> rfl), by repeat (first | (with_reducible first | exact HB.out | apply below_alloc | apply pw_below_drewN | apply below_drew1) | exact HB.out)⟩
             ·rw [if_neg c34] at H
              have c34b0 : (t634 == 0) = false := beq_eq_false_iff_ne.mpr c34
              have c34b1 : (t634 != 0) = true := bne_iff_ne.mpr c34
              obtain rfl := Option.some.inj H
              go_wp2_with (first | ((with_reducible refine gate_callee (f := 48) rfl ?_); refine goesL_ (some 59) rfl rfl Tryd.func48 (by kernel_rfl) rfl #[.slice Ao12 t619.length co12] rfl am ?_; (with_reducible refine (head_Print.calls _ _ t619 t631 _ ?side1 ?side2 A32.out).mono ?_); (case side1 => repeat (first | exact (Kd.R_reads' HO_5.out).2.2 | (with_reducible refine Kd.C_alloc ?_ _) | (with_reducible refine Kd.C_drewN ?_ _) | (with_reducible refine Kd.C_drew ?_))); (case side2 => exact (Kd.R_reads' HO_5.out).2.1); rintro e w42 ⟨rfl, hb⟩; refine ⟨_, rfl, ?_⟩; have n0_ := Aside0.mk (Kd.R_below (by (with_reducible repeat (first | apply Kd.R_alloc | apply Kd.R_drewN | apply Kd.R_drew)); exact HO_5.out) hb); have n1_ := Aside0.mk (below_step bw hb); clear HO_5; clear HB; have HO_5 := n0_; have HB := n1_; clear n0_ n1_; (try clear hb); (try clear hb2); (try clear hk); (try clear hi)) | ((with_reducible refine gate_callee (f := 41) rfl ?_); refine goesL_ (some 60) rfl rfl Tryd.func41 (by kernel_rfl) rfl #[.string t631] rfl am ?_; (with_reducible refine (head_Parse.calls (hG := by first | exact hG | exact Glob.below hG (by first | exact HB.out | (repeat (first | (with_reducible first | exact HB.out | apply below_alloc | apply pw_below_drewN | apply below_drew1) | exact HB.out))) | exact Glob.drawn hG (by repeat (first | exact Drawn0.refl _ | apply Drawn0.step))) kj23 t631 t632 t633 t634 _ A33.out).mono ?_); rintro e w43 ⟨v635, rfl, ho0, hb⟩; refine ⟨_, rfl, ?_⟩; have n0_ := Aside0.mk (Kd.R_elder' (by (with_reducible repeat (first | apply Kd.R_alloc | apply Kd.R_drewN | apply Kd.R_drew)); exact HO_5.out) (Kd.R_base ho0) hb); have n1_ := Aside0.mk (Kd.R_lower (Kd.R_new' ho0 (Kd.R_lt (by (with_reducible repeat (first | apply Kd.R_alloc | apply Kd.R_drewN | apply Kd.R_drew)); exact HO_5.out))) (below_size bw)); have n2_ := Aside0.mk (below_step bw hb); clear HO_5; clear HB; have HO_5 := n0_; have HO636 := n1_; have HB := n2_; clear n0_ n1_ n2_; (try clear hb); (try clear hb2); (try clear hk); (try clear hi); (try clear ho0)))
              go_ret
              exact ⟨by first | rfl | (simp [errW_none, errW_some] <;> rfl) | (simp [*, errW_none, errW_some] <;> rfl), by repeat (first | (with_reducible first | exact HB.out | apply below_alloc | apply pw_below_drewN | apply below_drew1) | exact HB.out)⟩
         ·rw [if_neg c22] at H
          exact absurd H (by simp)
        ·rw [if_neg c21] at H
         exact absurd H (by simp)
 ·replace c4 := Bool.eq_false_iff.mpr c4
  subst c4
  have H1 : (some false) = some r := by rw [if_neg (show ¬ (false = true) by decide)] at H; exact H
  clear H
  have H := H1
  clear H1
  obtain rfl := Option.some.inj H
  go_enter Tryd.func12, Tryd.ntmps12
  go_wp2_with (first | ((with_reducible refine gate_callee (f := 40) rfl ?_); refine goesL_ (some 10) rfl rfl Tryd.func40 (by kernel_rfl) rfl #[] rfl am ?_; (with_reducible refine (bulletinlaw15_works.calls (hG := by first | exact hG | exact Glob.below hG (by first | exact HB.out | (repeat (first | (with_reducible first | exact HB.out | apply below_alloc | apply pw_below_drewN | apply below_drew1) | exact HB.out))) | exact Glob.drawn hG (by repeat (first | exact Drawn0.refl _ | apply Drawn0.step))) k  false _ A3.out).mono ?_); rintro e w44 ⟨rfl, hb⟩; refine ⟨_, rfl, ?_⟩; have n0_ := Aside0.mk (below_step bw hb); clear HB; have HB := n0_; clear n0_; (try clear hb); (try clear hb2); (try clear hk); (try clear hi)))
  go_ret
  exact ⟨by first | rfl | (simp [errW_none, errW_some] <;> rfl) | (simp [*, errW_none, errW_some] <;> rfl), by repeat (first | (with_reducible first | exact HB.out | apply below_alloc | apply pw_below_drewN | apply below_drew1) | exact HB.out)⟩

end Go.Proofs.YtlomcmdbbnbciaaDoor.Fn
-- written by xprint.py of this session over the kit's printer; not trusted: Lean checks it
namespace Go.Proofs.YtlomcmdbbnbciaaDoor.Fn
open Go.RowKit Go.Proofs.YtlomcmdbbnbciaaDoorW.PrintWords Go.Proofs.YtlomcmdbbnbciaaDoorW.PrintLast Go.Proofs.YtlomcmdbbnbciaaDoorW.PrintMore
attribute [local go_sem] max2_int min2_int max_two min_two max_three min_three max_four min_four   -- for this text's walks alone
set_option linter.unusedVariables false
set_option linter.unusedSimpArgs false

/-! ### bulletinref15_blank: function 94 -/
def bulletinref15_blank.f (a0 : Int) : Option (Bool) := if a0 = 32 then (some true) else (some (a0 == 9))
end Go.Proofs.YtlomcmdbbnbciaaDoor.Fn
-- written by xprint.py of this session over the kit's printer; not trusted: Lean checks it
namespace Go.Proofs.YtlomcmdbbnbciaaDoor.Fn
open Go.RowKit Go.Proofs.YtlomcmdbbnbciaaDoorW.PrintWords Go.Proofs.YtlomcmdbbnbciaaDoorW.PrintLast Go.Proofs.YtlomcmdbbnbciaaDoorW.PrintMore
attribute [local go_sem] max2_int min2_int max_two min_two max_three min_three max_four min_four   -- for this text's walks alone
set_option linter.unusedVariables false
set_option linter.unusedSimpArgs false

/-! ### bulletinref15_Trim: function 96 -/
mutual
def bulletinref15_Trim.j1 : Nat → ByteArray → Option (ByteArray)
 | 0, _ => none
 | k + 1, x0 => bulletinref15_Trim.l1 k x0
def bulletinref15_Trim.l1 : Nat → ByteArray → Option (ByteArray)
 | 0, _ => none
 | k + 1, x0 => if (x0.size : Int) > 0 then (if 0 ≤ (wrap64 ((x0.size : Int) - 1)) then (if (wrap64 ((x0.size : Int) - 1)) < (x0.size : Int) then ((bulletinref15_blank.f (bt x0 (wrap64 ((x0.size : Int) - 1)))).bind fun t557 => (if t557 = true then (if (wrap64 ((x0.size : Int) - 1)) ≤ (x0.size : Int) then (bulletinref15_Trim.l1 k (x0.extract 0 ((wrap64 ((x0.size : Int) - 1)) : Int).toNat)) else (none)) else (some x0))) else (none)) else (none)) else (some x0)
def bulletinref15_Trim.l0 : Nat → ByteArray → Option (ByteArray)
 | 0, _ => none
 | k + 1, x0 => if (x0.size : Int) > 0 then (if 0 < (x0.size : Int) then ((bulletinref15_blank.f (bt x0 0)).bind fun t556 => (if t556 = true then (if 1 ≤ (x0.size : Int) then (bulletinref15_Trim.l0 k (x0.extract 1 x0.size)) else (none)) else (bulletinref15_Trim.j1 k x0))) else (none)) else (bulletinref15_Trim.j1 k x0)
end
def bulletinref15_Trim.f (k : Nat) (a0 : ByteArray) : Option (ByteArray) := bulletinref15_Trim.l0 k a0
end Go.Proofs.YtlomcmdbbnbciaaDoor.Fn
-- written by xprint.py of this session over the kit's printer; not trusted: Lean checks it
namespace Go.Proofs.YtlomcmdbbnbciaaDoor.Fn
open Go.RowKit Go.Proofs.YtlomcmdbbnbciaaDoorW.PrintWords Go.Proofs.YtlomcmdbbnbciaaDoorW.PrintLast Go.Proofs.YtlomcmdbbnbciaaDoorW.PrintMore
attribute [local go_sem] max2_int min2_int max_two min_two max_three min_three max_four min_four   -- for this text's walks alone
set_option linter.unusedVariables false
set_option linter.unusedSimpArgs false

/-! ### bulletinref15_line: function 92 -/
def bulletinref15_line.l0 : Nat → ByteArray → Int → Option (Int)
 | 0, _, _ => none
 | k + 1, x0, x3 => if (wrap64 (x3 + 1)) < (x0.size : Int) then (if 0 ≤ x3 then (if x3 < (x0.size : Int) then (if (bt x0 x3) = 13 then (if 0 ≤ (wrap64 (x3 + 1)) then (if (bt x0 (wrap64 (x3 + 1))) = 10 then (some x3) else (bulletinref15_line.l0 k x0 (wrap64 (x3 + 1)))) else (none)) else (bulletinref15_line.l0 k x0 (wrap64 (x3 + 1)))) else (none)) else (none)) else (some (-1))
def bulletinref15_line.f (k : Nat) (a0 : ByteArray) : Option (Int) := bulletinref15_line.l0 k a0 0
end Go.Proofs.YtlomcmdbbnbciaaDoor.Fn
-- written by xprint.py of this session over the kit's printer; not trusted: Lean checks it
namespace Go.Proofs.YtlomcmdbbnbciaaDoor.Fn
open Go.RowKit Go.Proofs.YtlomcmdbbnbciaaDoorW.PrintWords Go.Proofs.YtlomcmdbbnbciaaDoorW.PrintLast Go.Proofs.YtlomcmdbbnbciaaDoorW.PrintMore
attribute [local go_sem] max2_int min2_int max_two min_two max_three min_three max_four min_four   -- for this text's walks alone
set_option linter.unusedVariables false
set_option linter.unusedSimpArgs false

/-! ### bulletinref15_named: function 95 -/
def bulletinref15_named.l0 : Nat → ByteArray → Int → Option (Bool)
 | 0, _, _ => none
 | k + 1, x0, x3 => if x3 < (x0.size : Int) then (if 0 ≤ x3 then (if (bt x0 x3) < 33 then (some false) else (if (bt x0 x3) > 126 then (some false) else (if (bt x0 x3) = 58 then (some false) else (bulletinref15_named.l0 k x0 (wrap64 (x3 + 1)))))) else (none)) else (if (x0.size : Int) ≥ 1 then (some (decide ((x0.size : Int) ≤ 76))) else (some false))
def bulletinref15_named.f (k : Nat) (a0 : ByteArray) : Option (Bool) := bulletinref15_named.l0 k a0 0
end Go.Proofs.YtlomcmdbbnbciaaDoor.Fn
-- written by xprint.py of this session over the kit's printer; not trusted: Lean checks it
namespace Go.Proofs.YtlomcmdbbnbciaaDoor.Fn
open Go.RowKit Go.Proofs.YtlomcmdbbnbciaaDoorW.PrintWords Go.Proofs.YtlomcmdbbnbciaaDoorW.PrintLast Go.Proofs.YtlomcmdbbnbciaaDoorW.PrintMore
attribute [local go_sem] max2_int min2_int max_two min_two max_three min_three max_four min_four   -- for this text's walks alone
set_option linter.unusedVariables false
set_option linter.unusedSimpArgs false

/-! ### bulletinref15_textual: function 93 -/
def bulletinref15_textual.l0 : Nat → ByteArray → Int → Option (Bool)
 | 0, _, _ => none
 | k + 1, x0, x3 => if x3 < (x0.size : Int) then (if 0 ≤ x3 then (if (bt x0 x3) = 9 then (bulletinref15_textual.l0 k x0 (wrap64 (x3 + 1))) else (if (bt x0 x3) < 32 then (some false) else (if (bt x0 x3) = 127 then (some false) else (bulletinref15_textual.l0 k x0 (wrap64 (x3 + 1)))))) else (none)) else (some true)
def bulletinref15_textual.f (k : Nat) (a0 : ByteArray) : Option (Bool) := bulletinref15_textual.l0 k a0 0
end Go.Proofs.YtlomcmdbbnbciaaDoor.Fn
-- written by xprint.py of this session over the kit's printer; not trusted: Lean checks it
namespace Go.Proofs.YtlomcmdbbnbciaaDoor.Fn
open Go.RowKit Go.Proofs.YtlomcmdbbnbciaaDoorW.PrintWords Go.Proofs.YtlomcmdbbnbciaaDoorW.PrintLast Go.Proofs.YtlomcmdbbnbciaaDoorW.PrintMore
attribute [local go_sem] max2_int min2_int max_two min_two max_three min_three max_four min_four   -- for this text's walks alone
set_option linter.unusedVariables false
set_option linter.unusedSimpArgs false

/-! ### bulletinref15_Parse: function 42 -/
mutual
def bulletinref15_Parse.l0 : Nat → ByteArray → List (S59) → ByteArray → Int → Option ((List (S59)) × ByteArray × Int)
 | 0, _, _, _, _ => none
 | k + 1, x0, x5, x6, x7 => if x7 < (x0.size : Int) then (if 0 ≤ x7 then (if x7 ≤ (x0.size : Int) then ((bulletinref15_line.f k (x0.extract (x7 : Int).toNat x0.size)).bind fun t558 => (if t558 < 0 then (some (([] : List (S59)), (⟨#[]⟩ : ByteArray), 9)) else (if x7 ≤ (wrap64 (x7 + t558)) then (if (wrap64 (x7 + t558)) ≤ (x0.size : Int) then (if t558 = 0 then (if 0 ≤ (wrap64 ((wrap64 (x7 + t558)) + 2)) then (if (wrap64 ((wrap64 (x7 + t558)) + 2)) ≤ (x0.size : Int) then (bulletinref15_Parse.l0 k x0 x5 (x0.extract ((wrap64 ((wrap64 (x7 + t558)) + 2)) : Int).toNat x0.size) (x0.size : Int)) else (none)) else (none)) else (if t558 > 998 then (some (([] : List (S59)), (⟨#[]⟩ : ByteArray), 2)) else ((bulletinref15_textual.f k (x0.extract (x7 : Int).toNat ((wrap64 (x7 + t558)) : Int).toNat)).bind fun t559 => (if t559 = true then (if 0 < ((x0.extract (x7 : Int).toNat ((wrap64 (x7 + t558)) : Int).toNat).size : Int) then ((bulletinref15_blank.f (bt (x0.extract (x7 : Int).toNat ((wrap64 (x7 + t558)) : Int).toNat) 0)).bind fun t560 => (if t560 = true then (if (x5.length : Int) = 0 then (some (([] : List (S59)), (⟨#[]⟩ : ByteArray), 150)) else (if 0 ≤ (wrap64 ((x5.length : Int) - 1)) then (if (wrap64 ((x5.length : Int) - 1)) < (x5.length : Int) then (if ((rd_T59 x5 (wrap64 ((x5.length : Int) - 1))).f1).size + (x0.extract (x7 : Int).toNat ((wrap64 (x7 + t558)) : Int).toNat).size ≤ 9223372036854775807 then (bulletinref15_Parse.l0 k x0 (x5.set ((wrap64 ((x5.length : Int) - 1)) : Int).toNat (⟨(rd_T59 x5 (wrap64 ((x5.length : Int) - 1))).f0, ((rd_T59 x5 (wrap64 ((x5.length : Int) - 1))).f1) ++ (x0.extract (x7 : Int).toNat ((wrap64 (x7 + t558)) : Int).toNat)⟩ : S59)) x6 (wrap64 ((wrap64 (x7 + t558)) + 2))) else (none)) else (none)) else (none))) else (bulletinref15_Parse.l1 k x0 x5 x6 (wrap64 ((wrap64 (x7 + t558)) + 2)) (x0.extract (x7 : Int).toNat ((wrap64 (x7 + t558)) : Int).toNat) 0))) else (none)) else (some (([] : List (S59)), (⟨#[]⟩ : ByteArray), 150)))))) else (none)) else (none)))) else (none)) else (none)) else (bulletinref15_Parse.l2 k x5 x6 0)
def bulletinref15_Parse.j2 : Nat → ByteArray → List (S59) → ByteArray → Int → ByteArray → Int → Option ((List (S59)) × ByteArray × Int)
 | 0, _, _, _, _, _, _ => none
 | k + 1, x0, x5, x6, x7, x9, x10 => if x10 = (x9.size : Int) then (bulletinref15_Parse.j3 k x0 x5 x6 x7 x9 x10 true) else (if 0 ≤ x10 then (if x10 ≤ (x9.size : Int) then ((bulletinref15_named.f k (x9.extract 0 (x10 : Int).toNat)).bind fun t563 => (bulletinref15_Parse.j3 k x0 x5 x6 x7 x9 x10 (!t563))) else (none)) else (none))
def bulletinref15_Parse.j3 : Nat → ByteArray → List (S59) → ByteArray → Int → ByteArray → Int → Bool → Option ((List (S59)) × ByteArray × Int)
 | 0, _, _, _, _, _, _, _ => none
 | k + 1, x0, x5, x6, x7, x9, x10, x87 => if x87 = true then (some (([] : List (S59)), (⟨#[]⟩ : ByteArray), 150)) else (if (x5.length : Int) = 100 then (some (([] : List (S59)), (⟨#[]⟩ : ByteArray), 8)) else (if 0 ≤ x10 then (if x10 ≤ (x9.size : Int) then (if 0 ≤ (wrap64 (x10 + 1)) then (if (wrap64 (x10 + 1)) ≤ (x9.size : Int) then (if x5.length < 4398046511104 then (bulletinref15_Parse.l0 k x0 (x5 ++ [(⟨x9.extract 0 (x10 : Int).toNat, x9.extract ((wrap64 (x10 + 1)) : Int).toNat x9.size⟩ : S59)]) x6 x7) else (none)) else (none)) else (none)) else (none)) else (none)))
def bulletinref15_Parse.l1 : Nat → ByteArray → List (S59) → ByteArray → Int → ByteArray → Int → Option ((List (S59)) × ByteArray × Int)
 | 0, _, _, _, _, _, _ => none
 | k + 1, x0, x5, x6, x7, x9, x10 => if x10 < (x9.size : Int) then (if 0 ≤ x10 then (if (bt x9 x10) = 58 then (bulletinref15_Parse.j2 k x0 x5 x6 x7 x9 x10) else (bulletinref15_Parse.l1 k x0 x5 x6 x7 x9 (wrap64 (x10 + 1)))) else (none)) else (bulletinref15_Parse.j2 k x0 x5 x6 x7 x9 x10)
def bulletinref15_Parse.l2 : Nat → List (S59) → ByteArray → Int → Option ((List (S59)) × ByteArray × Int)
 | 0, _, _, _ => none
 | k + 1, x5, x6, x11 => if x11 < (x5.length : Int) then (if 0 ≤ x11 then ((bulletinref15_Trim.f k ((rd_T59 x5 x11).f1)).bind fun t568 => (bulletinref15_Parse.l2 k (x5.set (x11 : Int).toNat (⟨(rd_T59 x5 x11).f0, t568⟩ : S59)) x6 (wrap64 (x11 + 1)))) else (none)) else (some (x5, x6, 0))
end
end Go.Proofs.YtlomcmdbbnbciaaDoor.Fn
set_option linter.unusedVariables false
set_option linter.unusedSimpArgs false
namespace Go.Proofs.YtlomcmdbbnbciaaDoor.Pl
open Go.RowKit Go.Proofs.YtlomcmdbbnbciaaDoorW.PrintWords Go.Proofs.YtlomcmdbbnbciaaDoor.Fn

/-! The document's Parse computes the machine. -/
def toR (f : Fld) : S59 := ⟨str f.1, str f.2⟩
theorem rd_toR (l : List Fld) (i : Nat) : rd_T59 (l.map toR) (i : Int) = toR (l.getD i ([], [])) := by
  unfold rd_T59
  rw [Int.toNat_natCast, List.getD_eq_getElem?_getD, List.getD_eq_getElem?_getD, List.getElem?_map]
  cases l[i]? with
  | none => rfl
  | some x => rfl
theorem crlf_two (c d : UInt8) (r : Bytes) : crlf (c :: d :: r) = if c = 13 ∧ d = 10 then some 0 else (crlf (d :: r)).map (· + 1) := by
  show (if c = 13 ∧ (d :: r).head? = some 10 then some 0 else (crlf (d :: r)).map (· + 1)) = _
  simp only [List.head?_cons, Option.some.injEq]
/-! Trim -/
def ltrim (s : Bytes) : Bytes := s.dropWhile wb
def rtrim (s : Bytes) : Bytes := (s.reverse.dropWhile wb).reverse
theorem rtrim_cons (c : UInt8) (r : Bytes) : rtrim (c :: r) = if rtrim r = [] then (if wb c = true then [] else [c]) else c :: rtrim r := by
  unfold rtrim
  rw [List.reverse_cons, List.dropWhile_append]
  by_cases h : (r.reverse.dropWhile wb) = []
  · rw [h, if_pos (by simp), if_pos (by simp)]
    by_cases hc : wb c = true
    · rw [if_pos hc, List.dropWhile_cons_of_pos hc]; rfl
    · rw [if_neg hc, List.dropWhile_cons_of_neg hc]; rfl
  · rw [if_neg (by simpa using h), if_neg (by simpa using h)]
    simp
theorem trim_comm : ∀ s : Bytes, ltrim (rtrim s) = rtrim (ltrim s)
  | [] => rfl
  | c :: r => by
    have ih := trim_comm r
    by_cases hc : wb c = true
    · have e : ltrim (c :: r) = ltrim r := List.dropWhile_cons_of_pos hc
      rw [e, ← ih, rtrim_cons]
      by_cases h : rtrim r = []
      · rw [if_pos h, if_pos hc, h]
      · rw [if_neg h]; exact List.dropWhile_cons_of_pos hc
    · have e : ltrim (c :: r) = c :: r := List.dropWhile_cons_of_neg hc
      rw [e, rtrim_cons]
      by_cases h : rtrim r = []
      · rw [if_pos h, if_neg hc]; exact List.dropWhile_cons_of_neg hc
      · rw [if_neg h]; exact List.dropWhile_cons_of_neg hc
theorem trim_eq (s : Bytes) : trim s = rtrim (ltrim s) := by rw [← trim_comm]; rfl
end Go.Proofs.YtlomcmdbbnbciaaDoor.Pl
set_option linter.unusedVariables false
set_option linter.unusedSimpArgs false
namespace Go.Proofs.YtlomcmdbbnbciaaDoor.Pl
open Go.RowKit Go.Proofs.YtlomcmdbbnbciaaDoorW.PrintWords Go.Proofs.YtlomcmdbbnbciaaDoor.Fn

/-! The document's Parse: line by line. -/
end Go.Proofs.YtlomcmdbbnbciaaDoor.Pl
set_option linter.unusedVariables false
set_option linter.unusedSimpArgs false
namespace Go.Proofs.YtlomcmdbbnbciaaDoor.Pl
open Go.RowKit Go.Proofs.YtlomcmdbbnbciaaDoorW.PrintWords Go.Proofs.YtlomcmdbbnbciaaDoor.Fn

/-! A field as it is written: its lines. -/
def linesFrom : Nat → Bool → Nat → Bytes → Bytes → List Bytes
  | 0, _, _, _, cur => [cur]
  | f + 1, first, pos, s, cur => if s = [] then [cur] else if brk first pos s = true then cur :: linesFrom f false (0 + pieceL s) (s.drop (pieceL s)) (s.take (pieceL s))
    else linesFrom f false (pos + pieceL s) (s.drop (pieceL s)) (cur ++ s.take (pieceL s))
def flat (l : List Bytes) : Bytes := l.flatMap fun x => x ++ [13, 10]
theorem flat_cons (x : Bytes) (l : List Bytes) : flat (x :: l) = x ++ (13 :: 10 :: flat l) := by simp [flat]
theorem lines_flat : ∀ (f : Nat) (first : Bool) (pos : Nat) (s cur : Bytes), s.length ≤ f → cur ++ (showFrom f first pos s ++ [13, 10]) = flat (linesFrom f first pos s cur)
  | 0, first, pos, s, cur, h => by
    obtain rfl := List.eq_nil_of_length_eq_zero (by omega : s.length = 0)
    simp [showFrom, linesFrom, flat]
  | f + 1, first, pos, s, cur, h => by
    unfold showFrom linesFrom
    by_cases h0 : s = []
    · rw [if_pos h0, if_pos h0]; simp [flat]
    · have hp := pieceL_pos s h0
      have hl : (s.drop (pieceL s)).length ≤ f := by rw [List.length_drop]; omega
      rw [if_neg h0, if_neg h0]
      by_cases hb : brk first pos s = true
      · rw [if_pos hb, if_pos hb, if_pos hb, flat_cons, ← lines_flat f false (0 + pieceL s) _ (s.take (pieceL s)) hl]
        simp
      · rw [if_neg hb, if_neg hb, if_neg hb, ← lines_flat f false (pos + pieceL s) _ (cur ++ s.take (pieceL s)) hl]
        simp
theorem drop_takeWhile (p : UInt8 → Bool) : ∀ l : Bytes, l.drop (l.takeWhile p).length = l.dropWhile p
  | [] => rfl
  | c :: r => by
    by_cases h : p c = true
    · rw [List.takeWhile_cons_of_pos h, List.dropWhile_cons_of_pos h, List.length_cons, List.drop_succ_cons, drop_takeWhile p r]
    · rw [List.takeWhile_cons_of_neg h, List.dropWhile_cons_of_neg h]; rfl
theorem dropWhile_head (p : UInt8 → Bool) : ∀ l : Bytes, l.dropWhile p = [] ∨ p ((l.dropWhile p).headD 0) = false
  | [] => .inl rfl
  | c :: r => by
    by_cases h : p c = true
    · rw [List.dropWhile_cons_of_pos h]; exact dropWhile_head p r
    · rw [List.dropWhile_cons_of_neg h]; right; simpa using h
theorem piece_next (s : Bytes) : s.drop (pieceL s) = [] ∨ wb ((s.drop (pieceL s)).headD 0) = true := by
  have e : s.drop (pieceL s) = (s.drop (lead s)).dropWhile (fun c => !wb c) := by
    rw [← drop_takeWhile, List.drop_drop]
    rfl
  rw [e]
  rcases dropWhile_head (fun c => !wb c) (s.drop (lead s)) with h | h
  · exact .inl h
  · exact .inr (by simpa using h)
theorem head_take {s : Bytes} {n : Nat} (h0 : 0 < n) (r : Bytes) (hs : s ≠ []) : (s.take n ++ r).headD 0 = s.headD 0 ∧ s.take n ++ r ≠ [] := by
  cases s with
  | nil => exact absurd rfl hs
  | cons c s =>
    obtain ⟨n, rfl⟩ : ∃ m, n = m + 1 := ⟨n - 1, by omega⟩
    simp
theorem lines_shape : ∀ (f : Nat) (first : Bool) (pos : Nat) (s cur : Bytes), s.length ≤ f → (s = [] ∨ wb (s.headD 0) = true) →
    ∃ t Ls, linesFrom f first pos s cur = (cur ++ t) :: Ls ∧ t ++ Ls.flatten = s ∧ (∀ x ∈ Ls, wb (x.headD 0) = true ∧ x ≠ [])
  | 0, first, pos, s, cur, h, _ => by
    obtain rfl := List.eq_nil_of_length_eq_zero (by omega : s.length = 0)
    exact ⟨[], [], by simp [linesFrom], rfl, by simp⟩
  | f + 1, first, pos, s, cur, h, hw => by
    unfold linesFrom
    by_cases h0 : s = []
    · rw [if_pos h0]; exact ⟨[], [], by simp, by simp [h0], by simp⟩
    · have hp := pieceL_pos s h0
      have hl : (s.drop (pieceL s)).length ≤ f := by rw [List.length_drop]; omega
      have hw' : wb (s.headD 0) = true := hw.resolve_left h0
      rw [if_neg h0]
      by_cases hb : brk first pos s = true
      · rw [if_pos hb]
        obtain ⟨t, Ls, e1, e2, e3⟩ := lines_shape f false (0 + pieceL s) (s.drop (pieceL s)) (s.take (pieceL s)) hl (piece_next s)
        refine ⟨[], (s.take (pieceL s) ++ t) :: Ls, by rw [e1]; simp, ?_, ?_⟩
        · rw [List.flatten_cons, List.nil_append, List.append_assoc, e2, List.take_append_drop]
        · intro x hx
          rcases List.mem_cons.1 hx with rfl | hx
          · obtain ⟨g1, g2⟩ := head_take hp t h0
            exact ⟨by rw [g1]; exact hw', g2⟩
          · exact e3 x hx
      · rw [if_neg hb]
        obtain ⟨t, Ls, e1, e2, e3⟩ := lines_shape f false (pos + pieceL s) (s.drop (pieceL s)) (cur ++ s.take (pieceL s)) hl (piece_next s)
        refine ⟨s.take (pieceL s) ++ t, Ls, by rw [e1, List.append_assoc], ?_, e3⟩
        rw [List.append_assoc, e2, List.take_append_drop]
def noCr (l : Bytes) : Prop := ∀ c ∈ l, c ≠ 13
theorem crlf_line : ∀ (l rest : Bytes), noCr l → crlf (l ++ (13 :: 10 :: rest)) = some l.length
  | [], rest, _ => by rw [List.nil_append, crlf_two, if_pos ⟨rfl, rfl⟩]; rfl
  | c :: l, rest, h => by
    have ih := crlf_line l rest (fun x hx => h x (List.mem_cons_of_mem _ hx))
    have hc : c ≠ 13 := h c (by simp)
    show (if c = 13 ∧ (l ++ (13 :: 10 :: rest)).head? = some 10 then some 0 else (crlf (l ++ (13 :: 10 :: rest))).map (· + 1)) = _
    rw [if_neg (fun e => hc e.1), ih]
    rfl
theorem text_noCr {l : Bytes} (h : textual l = true) : noCr l := by
  intro c hc e
  subst e
  have := List.all_eq_true.1 h 13 hc
  revert this
  decide
theorem parseM_fuel : ∀ (n m : Nat) (s : Bytes) (l : List Fld), s.length < n → s.length < m → parseM n s l = parseM m s l
  | 0, m, s, l, h, _ => by omega
  | n + 1, 0, s, l, _, h => by omega
  | n + 1, m + 1, s, l, hn, hm => by
    rw [parseM, parseM]
    by_cases h0 : s = []
    · rw [if_pos h0, if_pos h0]
    · rw [if_neg h0, if_neg h0]
      cases hc : crlf s with
      | none => rfl
      | some i =>
        have hr := crlf_room hc
        have hd : (s.drop (i + 2)).length = s.length - (i + 2) := List.length_drop
        simp only []
        rw [parseM_fuel n m (s.drop (i + 2)) _ (by omega) (by omega)]
theorem parse_one {line rest : Bytes} {l l' : List Fld} (hcr : noCr line) (h0 : line ≠ []) (hg : growL l line = (l', 0)) (n m : Nat) (hn : (line ++ (13 :: 10 :: rest)).length < n) (hm : rest.length < m) :
    parseM n (line ++ (13 :: 10 :: rest)) l = parseM m rest l' := by
  obtain ⟨n, rfl⟩ : ∃ q, n = q + 1 := ⟨n - 1, by omega⟩
  have hi : line.length ≠ 0 := fun e => h0 (List.eq_nil_of_length_eq_zero e)
  rw [List.length_append, List.length_cons, List.length_cons] at hn
  have e1 : (line ++ (13 :: 10 :: rest)).take line.length = line := List.take_left
  have e2 : (line ++ (13 :: 10 :: rest)).drop (line.length + 2) = rest := by
    rw [← List.drop_drop, List.drop_left]; rfl
  rw [parseM, if_neg (by simp), crlf_line line rest hcr]
  simp only []
  rw [if_neg hi, e1, e2, hg]
  rw [if_pos rfl]
  exact parseM_fuel n m rest l' (by omega) hm
theorem addLast_snoc (l : List Fld) (a : Fld) (x : Bytes) : addLast (l ++ [a]) x = l ++ [(a.1, a.2 ++ x)] := by
  unfold addLast
  have e : (l ++ [a]).length - 1 = l.length := by simp
  rw [e, List.getD_eq_getElem?_getD, List.getElem?_append_right (Nat.le_refl _), Nat.sub_self]
  simp [List.set_append]
theorem grow_more (l : List Fld) (a : Fld) (x : Bytes) (hx : x.length ≤ 998) (ht : textual x = true) (hw : wb (x.headD 0) = true) : growL (l ++ [a]) x = (l ++ [(a.1, a.2 ++ x)], 0) := by
  unfold growL
  rw [if_neg (by omega), if_neg (by rw [ht]; decide), if_pos hw, if_neg (by simp), addLast_snoc]
theorem upto_name : ∀ (n t : Bytes), n.all nameB = true → upto 58 (n ++ (58 :: t)) = n.length
  | [], t, _ => by simp [upto]
  | c :: n, t, h => by
    rw [List.all_cons, Bool.and_eq_true] at h
    have ih := upto_name n t h.2
    have hc : c ≠ 58 := by
      rintro rfl
      have := h.1
      revert this
      decide
    rw [List.cons_append, upto, if_neg hc, ih]
    rfl
theorem name_text {n : Bytes} (h : n.all nameB = true) : textual n = true := by
  unfold textual
  rw [List.all_eq_true] at h ⊢
  intro c hc
  have := h c hc
  unfold nameB at this
  unfold textB
  simp only [Bool.and_eq_true, Bool.not_eq_true', decide_eq_false_iff_not, Bool.or_eq_true, decide_eq_true_iff] at this ⊢
  omega
theorem name_head {n : Bytes} (h : named n = true) (t : Bytes) : wb ((n ++ t).headD 0) = false ∧ n ≠ [] := by
  unfold named at h
  simp only [Bool.and_eq_true, Bool.not_eq_true', decide_eq_false_iff_not, decide_eq_true_iff] at h
  cases n with
  | nil => exact absurd rfl h.2.1
  | cons c n =>
    refine ⟨?_, by simp⟩
    have hc := List.all_eq_true.1 h.1 c (by simp)
    unfold nameB at hc
    simp only [Bool.and_eq_true, Bool.not_eq_true', decide_eq_false_iff_not] at hc
    rw [List.cons_append, List.headD_cons, wb_nat]
    simp only [Bool.or_eq_false_iff, decide_eq_false_iff_not]
    omega
theorem textual_app (a b : Bytes) : textual (a ++ b) = (textual a && textual b) := by unfold textual; rw [List.all_append]
theorem grow_first (l : List Fld) (n t : Bytes) (hn : named n = true) (ht : textual t = true) (hlen : (n ++ (58 :: t)).length ≤ 998) (hl : l.length < 100) : growL l (n ++ (58 :: t)) = (l ++ [(n, t)], 0) := by
  have hall : n.all nameB = true := by unfold named at hn; exact (Bool.and_eq_true _ _ ▸ hn).1
  have hu := upto_name n t hall
  have h1 : textual (n ++ (58 :: t)) = true := by
    rw [textual_app, name_text hall, Bool.true_and, show (58 :: t : Bytes) = [58] ++ t from rfl, textual_app, ht]; decide
  unfold growL
  rw [if_neg (by omega), if_neg (by rw [h1]; decide), if_neg (by rw [(name_head hn _).1]; decide), hu, if_neg (by simp), List.take_left, if_neg (by rw [hn]; decide), if_neg (by omega)]
  rw [← List.drop_drop, List.drop_left]
  rfl
theorem parse_more (l : List Fld) (n : Bytes) : ∀ (Ls : List Bytes) (v rest : Bytes) (N M : Nat), (∀ x ∈ Ls, wb (x.headD 0) = true ∧ x ≠ [] ∧ x.length ≤ 998 ∧ textual x = true) → (flat Ls ++ rest).length < N → rest.length < M →
    parseM N (flat Ls ++ rest) (l ++ [(n, v)]) = parseM M rest (l ++ [(n, v ++ Ls.flatten)])
  | [], v, rest, N, M, _, hN, hM => by
    simp only [flat, List.flatMap_nil, List.nil_append, List.flatten_nil, List.append_nil] at hN ⊢
    exact parseM_fuel N M rest _ hN hM
  | x :: Ls, v, rest, N, M, h, hN, hM => by
    obtain ⟨h1, h2, h3, h4⟩ := h x (by simp)
    have e : flat (x :: Ls) ++ rest = x ++ (13 :: 10 :: (flat Ls ++ rest)) := by rw [flat_cons]; simp
    rw [e] at hN ⊢
    rw [parse_one (text_noCr h4) h2 (grow_more l (n, v) x h3 h4 h1) N ((flat Ls ++ rest).length + 1) hN (by omega)]
    rw [parse_more l n Ls (v ++ x) rest _ M (fun y hy => h y (List.mem_cons_of_mem _ hy)) (by omega) hM]
    simp
def lead1 (v : Bytes) : Bytes := if v = [] then [] else 32 :: v
theorem cuts_flat : ∀ (ls : List Bytes), (∀ x ∈ ls, noCr x) → linesL (str (flat ls)) = ls.map str ++ [str []]
  | [], _ => by
    unfold linesL
    rw [show flat [] = [] from rfl, cuts_last finds_crlf _ (by unfold findCrlf; rw [str_data]; decide)]
    rfl
  | x :: ls, h => by
    have ih := cuts_flat ls (fun y hy => h y (List.mem_cons_of_mem _ hy))
    have hf : findCrlf (str (flat (x :: ls))) = (x.length : Int) := by
      unfold findCrlf
      rw [str_data, index_crlf, flat_cons, crlf_line x (flat ls) (h x (by simp))]
    unfold linesL at ih ⊢
    rw [cuts_more finds_crlf _ (by rw [hf]; omega), hf, Int.toNat_natCast]
    have e1 : (str (flat (x :: ls))).extract 0 x.length = str x := by rw [str_extract, flat_cons, List.take_left, List.drop_zero]
    have e2 : (str (flat (x :: ls))).extract (x.length + 2) (str (flat (x :: ls))).size = str (flat ls) := by
      rw [str_extract, str_size, List.take_of_length_le (Nat.le_refl _), flat_cons, ← List.drop_drop, List.drop_left]
      rfl
    rw [e1, e2, ih]
    rfl
theorem show_lines (n v : Bytes) : showL n v = flat (linesFrom (v.length + 1) true (n.length + 1) (lead1 v) (n ++ [58])) := by
  unfold showL
  have : (lead1 v).length ≤ v.length + 1 := by unfold lead1; split <;> simp
  rw [← lines_flat _ _ _ _ _ this]
  rfl
theorem field_lines {n v : Bytes} (h : rightL n v = true) : ∃ t Ls, showL n v = flat ((n ++ (58 :: t)) :: Ls) ∧ t ++ Ls.flatten = lead1 v ∧ named n = true ∧ textual t = true ∧ (n ++ (58 :: t)).length ≤ 998 ∧
    (∀ x ∈ Ls, wb (x.headD 0) = true ∧ x ≠ [] ∧ x.length ≤ 998 ∧ textual x = true) ∧ trim v = v ∧ linesFrom (v.length + 1) true (n.length + 1) (lead1 v) (n ++ [58]) = (n ++ (58 :: t)) :: Ls := by
  unfold rightL at h
  simp only [Bool.and_eq_true, decide_eq_true_iff] at h
  obtain ⟨hn, ht, htr, hl⟩ := h
  have hlen : (lead1 v).length ≤ v.length + 1 := by unfold lead1; split <;> simp
  have hhd : lead1 v = [] ∨ wb ((lead1 v).headD 0) = true := by
    unfold lead1
    split
    · exact .inl rfl
    · exact .inr rfl
  obtain ⟨t, Ls, e1, e2, e3⟩ := lines_shape (v.length + 1) true (n.length + 1) (lead1 v) (n ++ [58]) hlen hhd
  have e1' : linesFrom (v.length + 1) true (n.length + 1) (lead1 v) (n ++ [58]) = (n ++ (58 :: t)) :: Ls := by rw [e1]; simp
  have htl : textual (lead1 v) = true := by
    unfold lead1
    split
    · rfl
    · rw [show (32 :: v : Bytes) = [32] ++ v from rfl, textual_app, ht]; decide
  have hmem : ∀ c, c ∈ lead1 v → textB c = true := fun c hc => List.all_eq_true.1 htl c hc
  have htt : textual t = true := List.all_eq_true.2 fun c hc => hmem c (by rw [← e2]; exact List.mem_append_left _ hc)
  have htx : ∀ x ∈ Ls, textual x = true := fun x hx => List.all_eq_true.2 fun c hc => hmem c (by rw [← e2]; exact List.mem_append_right _ (List.mem_flatten.2 ⟨x, hx, hc⟩))
  have hall : n.all nameB = true := by unfold named at hn; exact (Bool.and_eq_true _ _ ▸ hn).1
  have h0 : textual (n ++ (58 :: t)) = true := by
    rw [textual_app, name_text hall, Bool.true_and, show (58 :: t : Bytes) = [58] ++ t from rfl, textual_app, htt]; decide
  have hs : showL n v = flat ((n ++ (58 :: t)) :: Ls) := by rw [show_lines, e1']
  rw [hs, cuts_flat _ (fun x hx => by
    rcases List.mem_cons.1 hx with rfl | hx
    · exact text_noCr h0
    · exact text_noCr (htx x hx))] at hl
  rw [List.all_eq_true] at hl
  have hfit : ∀ x ∈ (n ++ (58 :: t)) :: Ls, x.length ≤ 998 := fun x hx => by
    have := hl (str x) (List.mem_append_left _ (List.mem_map_of_mem hx))
    unfold fitsL at this
    rw [decide_eq_true_iff, str_size] at this
    exact this
  exact ⟨t, Ls, hs, e2, hn, htt, hfit _ (by simp), fun x hx => ⟨(e3 x hx).1, (e3 x hx).2, hfit x (List.mem_cons_of_mem _ hx), htx x hx⟩, htr, e1'⟩
theorem parse_field {n v : Bytes} (h : rightL n v = true) (l : List Fld) (hl : l.length < 100) (rest : Bytes) (N M : Nat) (hN : (showL n v ++ rest).length < N) (hM : rest.length < M) :
    parseM N (showL n v ++ rest) l = parseM M rest (l ++ [(n, lead1 v)]) := by
  obtain ⟨t, Ls, hs, e2, hn, ht, h998, hLs, htr, _⟩ := field_lines h
  have hall : n.all nameB = true := by unfold named at hn; exact (Bool.and_eq_true _ _ ▸ hn).1
  have h0 : textual (n ++ (58 :: t)) = true := by
    rw [textual_app, name_text hall, Bool.true_and, show (58 :: t : Bytes) = [58] ++ t from rfl, textual_app, ht]; decide
  have e : showL n v ++ rest = (n ++ (58 :: t)) ++ (13 :: 10 :: (flat Ls ++ rest)) := by rw [hs, flat_cons]; simp
  rw [e] at hN ⊢
  rw [parse_one (text_noCr h0) (by simp) (grow_first l n t hn ht h998 hl) N ((flat Ls ++ rest).length + 1) hN (by omega), parse_more l n Ls t rest _ M hLs (by omega) hM, e2]
theorem trim_lead1 {v : Bytes} (h : trim v = v) : trim (lead1 v) = v := by
  unfold lead1
  split
  · rename_i e; rw [e]; rfl
  · rw [trim_eq] at h ⊢
    rw [show ltrim (32 :: v) = ltrim v from List.dropWhile_cons_of_pos (by decide)]
    exact h
theorem parse_fields : ∀ (fs : List Fld) (l : List Fld) (rest : Bytes) (N M : Nat), (∀ f ∈ fs, rightL f.1 f.2 = true) → l.length + fs.length ≤ 100 → (printL fs ++ rest).length < N → rest.length < M →
    parseM N (printL fs ++ rest) l = parseM M rest (l ++ fs.map fun f => (f.1, lead1 f.2))
  | [], l, rest, N, M, _, _, hN, hM => by
    simp only [printL, List.flatMap_nil, List.nil_append, List.map_nil, List.append_nil] at hN ⊢
    exact parseM_fuel N M rest l hN hM
  | f :: fs, l, rest, N, M, h, hl, hN, hM => by
    rw [List.length_cons] at hl
    have e : printL (f :: fs) ++ rest = showL f.1 f.2 ++ (printL fs ++ rest) := by simp [printL]
    rw [e] at hN ⊢
    rw [parse_field (h f (by simp)) l (by omega) (printL fs ++ rest) N ((printL fs ++ rest).length + 1) hN (by omega),
      parse_fields fs (l ++ [(f.1, lead1 f.2)]) rest _ M (fun g hg => h g (List.mem_cons_of_mem _ hg)) (by rw [List.length_append]; simp only [List.length_cons, List.length_nil]; omega) (by omega) hM]
    simp
theorem trims_back (fs : List Fld) (h : ∀ f ∈ fs, rightL f.1 f.2 = true) : (fs.map fun f => (f.1, lead1 f.2)).map trimF = fs := by
  rw [List.map_map]
  have : ∀ f ∈ fs, (trimF ∘ fun f : Fld => (f.1, lead1 f.2)) f = id f := fun f hf => by
    obtain ⟨_, _, _, _, _, _, _, _, htr, _⟩ := field_lines (h f hf)
    show (f.1, trim (lead1 f.2)) = f
    rw [trim_lead1 htr]
  rw [List.map_congr_left this, List.map_id]
theorem parse_print (fs : List Fld) (h : ∀ f ∈ fs, rightL f.1 f.2 = true) (hl : fs.length ≤ 100) (body : Bytes) : parseH (printL fs ++ (13 :: 10 :: body)) = (fs, body, 0) := by
  unfold parseH
  rw [parse_fields fs [] (13 :: 10 :: body) _ (body.length + 3) h (by simpa using hl) (by omega) (by simp), List.nil_append, parseM, if_neg (by simp), crlf_two, if_pos ⟨rfl, rfl⟩]
  simp only []
  rw [if_pos trivial, trims_back fs h]
  rfl
theorem parse_print0 (fs : List Fld) (h : ∀ f ∈ fs, rightL f.1 f.2 = true) (hl : fs.length ≤ 100) : parseH (printL fs) = (fs, [], 0) := by
  have := parse_fields fs [] [] ((printL fs).length + 1) 1 h (by simpa using hl) (by simp) (by simp)
  rw [List.append_nil, List.nil_append] at this
  unfold parseH
  rw [this, parseM, if_pos rfl, trims_back fs h]
end Go.Proofs.YtlomcmdbbnbciaaDoor.Pl
-- written by xprint.py of this session over the kit's printer; not trusted: Lean checks it
namespace Go.Proofs.YtlomcmdbbnbciaaDoor.Fn
open Go.RowKit Go.Proofs.YtlomcmdbbnbciaaDoorW.PrintWords Go.Proofs.YtlomcmdbbnbciaaDoorW.PrintLast Go.Proofs.YtlomcmdbbnbciaaDoorW.PrintMore
attribute [local go_sem] max2_int min2_int max_two min_two max_three min_three max_four min_four   -- for this text's walks alone
set_option linter.unusedVariables false
set_option linter.unusedSimpArgs false

/-! ### bulletinlaw15_HeadReads: function 9 -/
end Go.Proofs.YtlomcmdbbnbciaaDoor.Fn
set_option linter.unusedVariables false
set_option linter.unusedSimpArgs false
namespace Go.Proofs.YtlomcmdbbnbciaaDoor.Pl
open Go.RowKit Go.Proofs.YtlomcmdbbnbciaaDoorW.PrintWords Go.Proofs.YtlomcmdbbnbciaaDoor.Fn

theorem up_of {α : Type} {f : Nat → Option α} (h : ∀ k, LeO (f k) (f (k + 1))) {r : α} {k : Nat} (hr : f k = some r) (k' : Nat) (hk : k ≤ k') : f k' = some r := by
  obtain ⟨d, rfl⟩ : ∃ d, k' = k + d := ⟨k' - k, by omega⟩
  clear hk
  induction d with
  | zero => exact hr
  | succ d ih => exact h (k + d) r ih
set_option maxRecDepth 100000 in
theorem works15_at : bulletinlaw15_works.f 100 = some true := by decide +kernel
theorem works15 (k : Nat) (hk : 100 ≤ k) : bulletinlaw15_works.f k = some true := up_of bulletinlaw15_works.mono works15_at k hk
theorem same_rounds (l : List Fld) (hl : l.length ≤ 1000000000) : ∀ (n i k : Nat), l.length = i + n → n < k → bulletinlaw15_Same.l0 k (l.map toP) (l.map toR) true (i : Int) = some true := by
  intro n
  induction n with
  | zero =>
    intro i k h hk
    obtain ⟨k, rfl⟩ : ∃ q, k = q + 1 := ⟨k - 1, by omega⟩
    rw [bulletinlaw15_Same.l0, if_pos rfl, List.length_map, if_neg (by omega)]
  | succ n ih =>
    intro i k h hk
    obtain ⟨k, rfl⟩ : ∃ q, k = q + 1 := ⟨k - 1, by omega⟩
    have hn := ih (i + 1) k (by omega) (by omega)
    rw [bulletinlaw15_Same.l0, if_pos rfl, List.length_map, List.length_map, if_pos (by omega), if_pos (by omega), if_pos (by omega), rd_toP, rd_toR]
    have e1 : (toP (l.getD i ([], []))).f0.toList = (toR (l.getD i ([], []))).f0.toList := rfl
    have e2 : ((toP (l.getD i ([], []))).f1.toList == (toR (l.getD i ([], []))).f1.toList) = true := beq_iff_eq.mpr rfl
    rw [if_pos e1, e2, wrap_succ i (by omega), hn]
theorem same_is (l : List Fld) (hl : l.length ≤ 1000000000) (k : Nat) (hk : l.length < k) : bulletinlaw15_Same.f k (l.map toP) (l.map toR) = some true := by
  unfold bulletinlaw15_Same.f
  rw [List.length_map, List.length_map, show ((l.length : Int) == (l.length : Int)) = true from beq_iff_eq.mpr rfl]
  exact same_rounds l hl l.length 0 k (by omega) hk
end Go.Proofs.YtlomcmdbbnbciaaDoor.Pl
set_option linter.unusedVariables false
set_option linter.unusedSimpArgs false
namespace Go.Proofs.YtlomcmdbbnbciaaDoor.Pl
open Go.RowKit Go.Proofs.YtlomcmdbbnbciaaDoorW.PrintWords Go.Proofs.YtlomcmdbbnbciaaDoor.Fn

def okF (f : Fld) : Bool := decide (f.1.length ≤ 200) && decide (f.2.length ≤ 3000)
def lightL (l : List Fld) : Bool := (l.take 30).all okF && decide (l.length ≤ 30)
theorem light_rounds (l : List Fld) : ∀ (n i k : Nat), i + n = 31 → i ≤ 30 → 2 * n + 3 < k → i ≤ l.length → bulletinlaw15_Light.l0 k (l.map toR) (i : Int) = some (((l.take 30).drop i).all okF && decide (l.length ≤ 30)) := by
  intro n
  induction n with
  | zero => intro i k h hi; omega
  | succ n ih =>
    intro i k h hi hk hil
    obtain ⟨k, rfl⟩ : ∃ q, k = q + 2 := ⟨k - 2, by omega⟩
    have hd : decide (((l.map toR).length : Int) ≤ 30) = decide (l.length ≤ 30) := by rw [List.length_map]; congr 1; exact propext ⟨fun h => by omega, fun h => by omega⟩
    rw [bulletinlaw15_Light.l0]
    by_cases h1 : i < l.length
    · rw [if_pos (by rw [List.length_map]; omega)]
      by_cases h2 : i < 30
      · rw [decide_eq_true (show ((i : Int) < 30) by omega), bulletinlaw15_Light.j1, if_pos rfl, if_pos (by omega), if_pos (by rw [List.length_map]; omega), rd_toR]
        have hg : l.getD i ([], []) = l[i] := by rw [List.getD_eq_getElem?_getD, List.getElem?_eq_getElem h1]; rfl
        have hdr : (l.take 30).drop i = l[i] :: (l.take 30).drop (i + 1) := by
          rw [List.drop_eq_getElem_cons (by rw [List.length_take]; omega), List.getElem_take]
        have z0 : ((toR (l.getD i ([], []))).f0).size = (l[i]).1.length := by rw [hg]; exact str_size _
        have z1 : ((toR (l.getD i ([], []))).f1).size = (l[i]).2.length := by rw [hg]; exact str_size _
        rw [z0, z1, hdr, List.all_cons]
        have hok : okF l[i] = (decide ((l[i]).1.length ≤ 200) && decide ((l[i]).2.length ≤ 3000)) := rfl
        by_cases a : (l[i]).1.length > 200
        · rw [if_pos (by omega), hok, decide_eq_false (by omega)]; rfl
        · rw [if_neg (by omega)]
          by_cases b : (l[i]).2.length > 3000
          · rw [if_pos (by omega), hok, decide_eq_false (show ¬ (l[i]).2.length ≤ 3000 by omega)]; simp
          · rw [if_neg (by omega), wrap_succ i (by omega), ih (i + 1) k (by omega) (by omega) (by omega) (by omega), hok, decide_eq_true (show (l[i]).1.length ≤ 200 by omega), decide_eq_true (show (l[i]).2.length ≤ 3000 by omega)]
            rfl
      · rw [decide_eq_false (show ¬ ((i : Int) < 30) by omega), bulletinlaw15_Light.j1, if_neg (by decide), hd, List.drop_of_length_le (by rw [List.length_take]; omega)]
        rfl
    · rw [if_neg (by rw [List.length_map]; omega), bulletinlaw15_Light.j1, if_neg (by decide), hd, List.drop_of_length_le (by rw [List.length_take]; omega)]
      rfl
theorem light_is (l : List Fld) (k : Nat) (hk : 100 < k) : bulletinlaw15_Light.f k (l.map toR) = some (lightL l) := by
  unfold bulletinlaw15_Light.f lightL
  have := light_rounds l 31 0 k (by omega) (by omega) (by omega) (by omega)
  rw [List.drop_zero] at this
  exact this
theorem light_some {l : List Fld} (h : lightL l = true) : l.length ≤ 30 ∧ ∀ f ∈ l, f.1.length ≤ 200 ∧ f.2.length ≤ 3000 := by
  unfold lightL at h
  rw [Bool.and_eq_true, decide_eq_true_iff] at h
  refine ⟨h.2, fun f hf => ?_⟩
  rw [List.take_of_length_le h.2] at h
  have := List.all_eq_true.1 h.1 f hf
  unfold okF at this
  rw [Bool.and_eq_true, decide_eq_true_iff, decide_eq_true_iff] at this
  exact this
theorem to_rounds (l : List Fld) (hl : l.length ≤ 1000000) : ∀ (n i k : Nat), l.length = i + n → n < k → bulletinlaw15_To.l0 k (l.map toR) ((l.take i).map toP) (i : Int) = some (l.map toP) := by
  intro n
  induction n with
  | zero =>
    intro i k h hk
    obtain ⟨k, rfl⟩ : ∃ q, k = q + 1 := ⟨k - 1, by omega⟩
    rw [bulletinlaw15_To.l0, if_neg (by rw [List.length_map]; omega), List.take_of_length_le (by omega)]
  | succ n ih =>
    intro i k h hk
    obtain ⟨k, rfl⟩ : ∃ q, k = q + 1 := ⟨k - 1, by omega⟩
    have hi : i < l.length := by omega
    have hn := ih (i + 1) k (by omega) (by omega)
    rw [bulletinlaw15_To.l0, if_pos (by rw [List.length_map]; omega), if_pos (by omega), if_pos (by rw [List.length_map, List.length_take]; omega), rd_toR, wrap_succ i (by omega)]
    have e : (l.take i).map toP ++ [(⟨(toR (l.getD i ([], []))).f0, (toR (l.getD i ([], []))).f1⟩ : S60)] = (l.take (i + 1)).map toP := by
      rw [List.take_succ_eq_append_getElem hi, List.map_append, List.getD_eq_getElem?_getD, List.getElem?_eq_getElem hi]
      rfl
    rw [e, hn]
theorem to_is (l : List Fld) (hl : l.length ≤ 1000000) (k : Nat) (hk : l.length < k) : bulletinlaw15_To.f k (l.map toR) = some (l.map toP) := by
  unfold bulletinlaw15_To.f
  exact to_rounds l hl l.length 0 k (by omega) hk
theorem headright_is {n v : Bytes} (h1 : n.length ≤ 1000000) (h2 : v.length ≤ 1000000) : head_Right.f (str n) (str v) = some (rightL n v) := by
  unfold head_Right.f
  rw [if_pos (by rw [str_size]; exact h1), if_pos (by rw [str_size]; exact h2), bs_str, bs_str]
theorem headprint_is (l : List Fld) (hl : l.length ≤ 1000000) (hf : ∀ f ∈ l, f.1.length ≤ 1000000 ∧ f.2.length ≤ 1000000) : head_Print.f (l.map toP) = some (str (printL l)) := by
  unfold head_Print.f
  have h1 : (l.map toP).all okP = true := by
    rw [List.all_eq_true]
    intro x hx
    obtain ⟨f, hfm, rfl⟩ := List.mem_map.1 hx
    have := hf f hfm
    unfold okP
    rw [Bool.and_eq_true, decide_eq_true_iff, decide_eq_true_iff]
    exact ⟨by show (str f.1).size ≤ _; rw [str_size]; exact this.1, by show (str f.2).size ≤ _; rw [str_size]; exact this.2⟩
  have h2 : (l.map toP).map ofP = l := by
    rw [List.map_map]
    have : ∀ f ∈ l, (ofP ∘ toP) f = id f := fun f _ => by
      show (bs (str f.1), bs (str f.2)) = f
      rw [bs_str, bs_str]
    rw [List.map_congr_left this, List.map_id]
  rw [if_pos (by rw [List.length_map]; exact hl), if_pos h1, h2]
theorem print_length (l : List Fld) (h : ∀ f ∈ l, f.1.length ≤ 200 ∧ f.2.length ≤ 3000) : (printL l).length ≤ 10000 * l.length := by
  induction l with
  | nil => simp [printL]
  | cons f l ih =>
    have h1 := ih (fun g hg => h g (List.mem_cons_of_mem _ hg))
    have h2 := h f (by simp)
    have h3 := showL_length f.1 f.2
    have e : printL (f :: l) = showL f.1 f.2 ++ printL l := rfl
    rw [e, List.length_append, List.length_cons]
    omega
theorem back_rounds (l : List Fld) (hl : l.length ≤ 30) (hf : ∀ f ∈ l, f.1.length ≤ 200 ∧ f.2.length ≤ 3000) (x0 : List (S59)) (x1 : ByteArray) (V : Option Bool) (B : Nat) :
    ∀ (n i k : Nat), l.length = i + n → B + n + 1 < k → (∀ f ∈ l.take i, rightL f.1 f.2 = true) →
    ((∀ f ∈ l, rightL f.1 f.2 = true) → ∀ k', B ≤ k' → bulletinlaw15_HeadBack.l0 (k' + 1) x0 x1 (l.map toP) (l.length : Int) (l.length : Int) = some true) →
    bulletinlaw15_HeadBack.l0 k x0 x1 (l.map toP) (l.length : Int) (i : Int) = some true := by
  intro n
  induction n with
  | zero =>
    intro i k h hk hr hV
    obtain ⟨k, rfl⟩ : ∃ q, k = q + 1 := ⟨k - 1, by omega⟩
    have hi : i = l.length := by omega
    rw [hi] at hr ⊢
    exact hV (by rwa [List.take_of_length_le (Nat.le_refl _)] at hr) k (by omega)
  | succ n ih =>
    intro i k h hk hr hV
    obtain ⟨k, rfl⟩ : ∃ q, k = q + 1 := ⟨k - 1, by omega⟩
    have hi : i < l.length := by omega
    have hfi := hf l[i] (List.getElem_mem hi)
    have hg : l.getD i ([], []) = l[i] := by rw [List.getD_eq_getElem?_getD, List.getElem?_eq_getElem hi]; rfl
    rw [bulletinlaw15_HeadBack.l0, if_pos (by omega), if_pos (by omega), if_pos (by rw [List.length_map]; omega), rd_toP, hg]
    show (head_Right.f (str l[i].1) (str l[i].2)).bind _ = _
    rw [headright_is (by omega) (by omega), Option.bind_some]
    cases hc : rightL l[i].1 l[i].2 with
    | false => rw [if_neg (by decide)]
    | true =>
      rw [if_pos rfl, wrap_succ i (by omega)]
      refine ih (i + 1) k (by omega) (by omega) (fun f hfm => ?_) hV
      rw [List.take_succ_eq_append_getElem hi] at hfm
      rcases List.mem_append.1 hfm with hfm | hfm
      · exact hr f hfm
      · rw [List.mem_singleton] at hfm; rw [hfm]; exact hc
theorem fields_of (q : List (S59)) : ∃ l : List Fld, q = l.map toR := by
  refine ⟨q.map fun x => (bs x.f0, bs x.f1), ?_⟩
  rw [List.map_map]
  have : ∀ x ∈ q, (toR ∘ fun x : S59 => (bs x.f0, bs x.f1)) x = id x := fun x _ => by
    show (⟨str (bs x.f0), str (bs x.f1)⟩ : S59) = x
    rw [str_bs, str_bs]
  rw [List.map_congr_left this, List.map_id]
theorem HeadBack (q : List (S59)) (body : ByteArray) : ∃ k, bulletinlaw15_HeadBack.f k q body = some true := by
  obtain ⟨l, rfl⟩ := fields_of q
  refine ⟨4000000, ?_⟩
  generalize hk : (4000000 : Nat) = k
  obtain ⟨k, rfl⟩ : ∃ m, k = m + 1 := ⟨k - 1, by omega⟩
  have hw := works15 (k + 1) (by omega)
  have hj : ∀ x0 x1, bulletinlaw15_HeadBack.j0 (k + 1) x0 x1 true = some true := fun x0 x1 => by rw [bulletinlaw15_HeadBack.j0, if_pos rfl]
  unfold bulletinlaw15_HeadBack.f
  rw [hw, Option.bind_some, if_pos rfl, light_is l (k + 1) (by omega), Option.bind_some]
  cases hL : lightL l with
  | false => rw [if_neg (by decide), hj]
  | true =>
    rw [if_pos rfl]
    by_cases h3 : (body.size : Int) > 3000
    · rw [decide_eq_true h3, hj]
    obtain ⟨hl, hf⟩ := light_some hL
    have hpl := print_length l hf
    have hbb := bs_length body
    rw [decide_eq_false h3, bulletinlaw15_HeadBack.j0, if_neg (by decide), to_is l (by omega) k (by omega), Option.bind_some, List.length_map]
    refine back_rounds l hl hf _ body none 3000000 l.length 0 k (by omega) (by omega) (by simp) (fun hr k' hk' => ?_)
    obtain ⟨k', rfl⟩ : ∃ m, k' = m + 1 := ⟨k' - 1, by omega⟩
    have hz1 : (str (printL l)).size = (printL l).length := str_size _
    have hz2 : (str (printL l) ++ (⟨#[13, 10]⟩ : ByteArray)).size = (printL l).length + 2 := by rw [ByteArray.size_append, hz1]; rfl
    have hz3 : ((str (printL l) ++ (⟨#[13, 10]⟩ : ByteArray)) ++ body).size = (printL l).length + 2 + body.size := by rw [ByteArray.size_append, hz2]
    have hb : bs ((str (printL l) ++ (⟨#[13, 10]⟩ : ByteArray)) ++ body) = printL l ++ (13 :: 10 :: bs body) := by
      rw [bs_app, bs_app, bs_str]
      show (printL l ++ [13, 10]) ++ bs body = _
      simp
    have hp1 := headparse_is ((str (printL l) ++ (⟨#[13, 10]⟩ : ByteArray)) ++ body) (by omega) (k' + 1) (by omega)
    rw [hb, parse_print l hr (by omega) (bs body)] at hp1
    have hp2 := headparse_is (str (printL l)) (by omega) k' (by omega)
    rw [bs_str, parse_print0 l hr (by omega)] at hp2
    have hpr := headprint_is l (by omega) (fun f h => by have := hf f h; omega)
    rw [bulletinlaw15_HeadBack.l0, if_neg (by omega), hpr, Option.bind_some, if_pos (by omega), if_pos (by omega), hp1, Option.bind_some]
    simp only []
    rw [if_pos trivial, str_bs, if_pos rfl, same_is l (by omega) (k' + 1) (by omega), Option.bind_some, bulletinlaw15_HeadBack.j2, if_neg (by decide), hpr, Option.bind_some, hp2, Option.bind_some]
    simp only []
    rw [if_pos trivial, toList_str, if_pos rfl, same_is l (by omega) k' (by omega)]
    rfl
end Go.Proofs.YtlomcmdbbnbciaaDoor.Pl
set_option linter.unusedVariables false
namespace Go.Proofs.YtlomcmdbbnbciaaDoor.Fn
open Go.RowKit Go.ChangeShapes Go.WideShapes Go.Proofs.YtlomcmdbbnbciaaDoorW.PrintWords

/-! A slice of fields (two texts each) that came in. -/
def strOf : Value → ByteArray | .string s => s | _ => ByteArray.empty
theorem open_fields {H : Type} {enc : TypeId × Value → H} {w : World} {base : Nat} {spare : Nat → Bool} {held : Bool} {fuel : Nat} {v : Value} {x : DataW H × List MemPlace}
    (h : DataW.trod enc Tryd.prog w base spare held fuel 52 [v] = some x) :
    ∃ (A : Option Addr) (c : Nat) (l : List (S59)), v = .slice A l.length c ∧ l.length ≤ c ∧ c ≤ maxLen ∧ Kd.C k59 w A l.length l := by
  rcases Go.Deep.open_slice_pairs Tryd.underlying52 Tryd.underlying59 (by kernel_rfl) rfl rfl (by kernel_rfl) (by kernel_rfl) h with ⟨h0, _⟩ | ⟨a, len, cap, m, n, V0, V1, D0, D1, P0, P1, hv, hb, hl, hm, hmm, _, hx⟩
  · refine ⟨none, 0, [], ?_, Nat.le_refl _, Nat.zero_le _, ?_⟩
    · simpa using h0
    · exact ⟨rfl, by simp, fun h => absurd h (by simp)⟩
  · have hlm : len ≤ m := by rw [hmm]; split <;> omega
    have s0 : ∀ i, i < len → V0 i = .string (strOf (V0 i)) := fun i hi => by
      obtain ⟨_, _, g, _⟩ := hx i (by omega)
      obtain ⟨s, e, _⟩ := DataW.trod_string Tryd.underlying9 g
      simp only [List.cons.injEq, and_true] at e
      rw [e]; rfl
    have s1 : ∀ i, i < len → V1 i = .string (strOf (V1 i)) := fun i hi => by
      obtain ⟨_, _, _, g⟩ := hx i (by omega)
      obtain ⟨s, e, _⟩ := DataW.trod_string Tryd.underlying9 g
      simp only [List.cons.injEq, and_true] at e
      rw [e]; rfl
    have hlen : ((List.range len).map fun i => (⟨strOf (V0 i), strOf (V1 i)⟩ : S59)).length = len := by simp
    refine ⟨some a, cap, (List.range len).map fun i => ⟨strOf (V0 i), strOf (V1 i)⟩, ?_, by rw [hlen]; exact hl, hm, ?_⟩
    · rw [hlen]; simpa using hv
    · rw [hlen]
      refine ⟨hlen, by unfold maxLen at hm; omega, fun h0 => ⟨a, rfl, fun j p hp => ?_⟩⟩
      have hj : j < len := by
        have := (List.getElem?_eq_some_iff.1 hp).1
        rwa [hlen] at this
      have hp' : p = ⟨strOf (V0 j), strOf (V1 j)⟩ := by
        rw [List.getElem?_map, List.getElem?_range hj] at hp
        exact (Option.some.inj hp).symm
      subst hp'
      obtain ⟨g0, g1, _, _⟩ := hx j (by omega)
      rw [s0 j hj] at g0
      rw [s1 j hj] at g1
      refine ⟨[.string (strOf (V0 j)), .string (strOf (V1 j))], rfl, k59_mk w _, fun i u hu => ?_⟩
      match i, hu with
      | 0, hu => obtain rfl := Option.some.inj hu; exact g0
      | 1, hu => obtain rfl := Option.some.inj hu; exact g1
      | i + 2, hu => simp at hu
set_option maxRecDepth 100000 in
theorem open_fields2 {H : Type} {enc : TypeId × Value → H} {w W : World} {base base' : Nat} {spare : Nat → Bool} {held : Bool} {re : Reach} {v : Value} {d : DataW H} {ps : List MemPlace}
    (hv : Value.okWide Tryd.prog W re base' 52 v) (h : DataW.Trod enc Tryd.prog w base spare held 52 v d ps) :
    ∃ (A : Option Addr) (c : Nat) (l : List (S59)), v = .slice A l.length c ∧ l.length ≤ c ∧ c ≤ maxLen ∧ Kd.C k59 w A l.length l := by
  obtain ⟨a, len, cap, rfl⟩ := okWide_slice Tryd.underlying52 hv
  obtain ⟨fuel, h⟩ := h
  have h' : DataW.trod enc Tryd.prog w base spare held fuel 52 [Value.slice a len cap] = some (d, ps) := h
  exact open_fields h'
end Go.Proofs.YtlomcmdbbnbciaaDoor.Fn
-- the row of the law HeadBack, out of its pure statement and its walk
namespace Go.Proofs.YtlomcmdbbnbciaaDoor.headBack
open Go.ChangeShapes Go.WideShapes Go.ChangeAt Go.RowKit Go.Joins
open Go.ChangeMaps (open_string shut_string)
set_option maxRecDepth 100000 in
theorem lifted (os : Os) (started : os.Started) (H : Type) (enc : TypeId × Value → H) :
    ReturnsInHanded {} Tryd.checked os 12 .any (fun w args => (Rows.headBackSpec.pre enc Tryd.prog Tryd.f12 [] false w args ∧ laidMetH Tryd.prog listed w) ∧ sizedMet enc Tryd.prog Tryd.f12 (OpenSpec.ofChange Rows.headBackSpec) false w args) (Rows.headBackSpec.post enc Tryd.prog Tryd.f12 false true false false) := by
  refine lift_both (C := Tryd.checked) (X := fun w _ => laidMetH Tryd.prog listed w) (fun _ _ _ hh h => h.of_heap hh) own started (by kernel_rfl) Tryd.func12
    (ChangeSpec.witness_at (enc := enc) (C := Tryd.checked) (os := os) (X := fun w _ => laidMetH Tryd.prog listed w) false (laidWorld os) #[.slice none 0 0, .string ByteArray.empty] 8 rfl (by kernel_rfl) (by kernel_rfl) (by kernel_rfl) (by kernel_rfl) (by kernel_rfl) (laid_met os _)) ?_
  intro W base args ds gs before hval0 hW _ hL hSh
  have hG : Fn.Glob W := Fn.glob_of hL hSh
  have hval : ∀ (j : Nat) t v, Tryd.f12.params[j]? = some t → args[j]? = some v → Value.okWide Tryd.prog W .any base t v := hval0
  have hW' := hW
  obtain ⟨p, q, hA0, hV, rfl, _, _⟩ := hW
  have hA : DataW.TrodAll enc Tryd.prog W 0 (fun _ => true) true Tryd.f12.params.toList args.toList ds p := hA0
  rw [Tryd.params12] at hA hval
  obtain ⟨v0, vs0, d0, ds0, p0, q0, hargs, rfl, rfl, h0, r0⟩ := trodAll_cons hA
  obtain ⟨v1, vs1, d1, ds1, p1, q1, rfl, rfl, rfl, h1, r1⟩ := trodAll_cons r0
  obtain ⟨rfl, rfl, rfl⟩ := trodAll_nil r1
  obtain rfl : args = #[v0, v1] := by cases args; simp_all
  obtain ⟨rfl, rfl⟩ := trodVars_none hV
  have k0 := h0
  have lt0 : ∀ x ∈ p0, x.block < W.heap.size := by obtain ⟨m, hm⟩ := k0; exact DataW.trod_lt m _ _ _ hm
  obtain ⟨A0, n0, a0, rfl, hc0, _, hr0⟩ := Fn.open_fields2 (hval 0 52 v0 rfl rfl) h0
  have k1 := h1
  have lt1 : ∀ x ∈ p1, x.block < W.heap.size := by obtain ⟨m, hm⟩ := k1; exact DataW.trod_lt m _ _ _ hm
  obtain ⟨a1, rfl, _, _, _⟩ := open_string Tryd.underlying9 (hval 1 9 v1 rfl rfl) h1
  obtain ⟨k, hk⟩ := Pl.HeadBack a0 a1
  refine (Fn.bulletinlaw15_HeadBack.calls k A0 n0 a0 a1 true W hG hr0 hc0 hk).mono ?_
  rintro e W' ⟨rfl, bel⟩
  exact ⟨_, rfl, _, _, _, [], _, [], hW', trodAll_mk1 (shut_bool Tryd.underlying4 _), (trodAll_cons_mk (Below.trod laidOut (by kernel_rfl) (of_decide_eq_true (by kernel_rfl)) k0 bel lt0) (trodAll_cons_mk (Below.trod laidOut (by kernel_rfl) (of_decide_eq_true (by kernel_rfl)) k1 bel lt1) trodAll_mk0)), rfl, bel.frame _, fun h => by cases h⟩
theorem over : Rows.headBackRow.holds Tryd.pinned (OpenSpec.ofChange Rows.headBackSpec) :=
  OpenClaim.holds_of_wide 12 Tryd.f12 rfl rfl rfl rfl rfl rfl rfl ⟨rfl, rfl, rfl, rfl, rfl⟩ rfl rfl rfl rfl rfl (by kernel_rfl) Tryd.func12 (by kernel_rfl)
    (of_decide_eq_true (by kernel_rfl)) (by unfold Func.isWrapper; first | (rw [if_pos (by decide +kernel)]; kernel_rfl) | (rw [if_neg (by decide +kernel)]; exact ⟨rfl, rfl⟩))
    (fun os started H enc _ => lifted os started H enc)
theorem proved : Rows.HeadBackSaid := over
#print axioms proved
theorem card : Rows.HeadBackCardSaid :=
  Claim7.holds_tied_plain_at .later [] [.data, .pinned] true (true, "a3f6bcdc9cb347ffdc7221f102fbc562a39496553b45ea8bedd4c5b8b6bf59b8") false
    proved (fun _ h => by cases h) (by kernel_rfl) (fun _ h => by cases h) headBack_row_tie rfl ⟨rfl, rfl⟩ (by kernel_rfl) rfl
    (fun f fn hf hfn => by
      obtain rfl : f = 12 := Option.some.inj ((show Tryd.prog.funcNamed "bulletin/bulletinlaw15.HeadBack" = some 12 by kernel_rfl).symm.trans hf) |>.symm
      obtain rfl : fn = Tryd.f12 := (Option.some.inj (Tryd.func12.symm.trans hfn)).symm
      exact ⟨by kernel_rfl, fun j t ht => by
        rw [Tryd.params12] at ht
        have hall : ([52, 9] : List TypeId).all (fun t => !(Tryd.prog.wantsStandIn t)) = true := by kernel_rfl
        have hm : t ∈ ([52, 9] : List TypeId) := by simpa using Array.mem_of_getElem? ht
        have h2 : Tryd.prog.wantsStandIn t = false := by simpa using List.all_eq_true.1 hall t hm
        exact h2⟩)
    (by kernel_rfl)
#print axioms card
end Go.Proofs.YtlomcmdbbnbciaaDoor.headBack
namespace Go.Proofs.YtlomcmdbbnbciaaDoor
theorem headBack_holds : Rows.HeadBackCardSaid := headBack.card
end Go.Proofs.YtlomcmdbbnbciaaDoor
