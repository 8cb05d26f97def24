/- A part of the proof of this sentence: A post that bears the list's id is refused -/
import Derived.Test.YtcndmhpeolbepaaGreatDoorCRightsLoop1
import Derived.Shelf.Strings.BuilderRune
import Derived.BigCall
import Derived.Laws.BitsLemmas
import Derived.Deep.QuietTactic
import Derived.Lib.RuneBytes
import Derived.Lib.DecodeN
import Derived.Lib.FieldsP
import Derived.Lib.Join
import Derived.Laws.RangeAny
import Derived.Test.YtcndmhpeolbepaaGreatDoorCRightsLoopWMore
import Derived.Shelf.Strings.Builder1
import Derived.Shelf.Strings.Builder2
import Derived.Shelf.Strings.OnBuilder
import Derived.Shelf.Strings.Trim
import Derived.Shelf.Small.Utf8
import Derived.Shelf.Small.Strs
import Derived.Shelf.Strings.BuilderF
import Derived.Shelf.Strings.BuilderK
import Derived.Shelf.Utf8.AppendRune
import Derived.Shelf.Utf8.RuneCount
import Derived.Shelf.Strconv.Itoa0
import Derived.Shelf.Strconv.Itoa1
import Derived.Shelf.LaysM
import Derived.Shelf.Strconv.Itoa2
import Derived.Shelf.Strconv.Itoa3
import Derived.Shelf.Strings.Search1
import Derived.Shelf.Strings.Search2
import Derived.Shelf.Strings.Search3
import Derived.Shelf.Strings.Count
import Derived.Shelf.Strings.Shaped
import Derived.Shelf.Strings.Prefix
import Derived.Shelf.Strings.Split
import Derived.Shelf.Strings.SplitShaped
import Derived.Shelf.Unicode.Decode
import Derived.Shelf.Strings.Runes
import Derived.Shelf.Strings.RuneCount
import Derived.Shelf.Strings.IndexAny
import Derived.Shelf.Strings.AsciiSet
import Derived.Shelf.Strings.IndexAnyAll
import Derived.Shelf.Strings.Explode
import Derived.Shelf.Bits.Mul64
import Derived.Shelf.Strings.Repeat
import Derived.Shelf.Unicode.DecodeSlow
import Derived.Shelf.Unicode.DecodeAny
import Derived.Shelf.Unicode.DecodeLast
import Derived.Shelf.Strings.FieldsFuncAny
import Derived.Shelf.Strings.FieldsFuncGrows
import Derived.Test.YtcndmhpeolbepaaGreatDoorProg
import Derived.Shelf.Strings.SlTrimAscii
import Derived.BigQuiet
set_option linter.unusedVariables false
set_option linter.unusedSimpArgs false
set_option maxHeartbeats 8000000
open Go.RowKit Go.Proofs.YtcndmhpeolbepaaGreatDoorW.PrintWords Go.Proofs.YtcndmhpeolbepaaGreatDoorW.PrintLast Go.Proofs.YtcndmhpeolbepaaGreatDoorW.PrintMore
namespace Go.Proofs.YtcndmhpeolbepaaGreatDoor.Fn
attribute [local go_sem] max2_int min2_int max_two min_two max_three min_three max_four min_four
def lex_quoted.l0 : Nat → ByteArray → List Int → Int → Option (Int × ByteArray × ByteArray × Int)
 | 0, _, _, _ => none
 | k + 1, x0, x5, x6 => if x6 < (x0.size : Int) then (if 0 ≤ x6 then (if x6 ≤ (x0.size : Int) then ((lex_fold.f (x0.extract (x6 : Int).toNat x0.size)).bind fun t453 => (if t453 = true then (lex_quoted.l0 k x0 x5 (wrap64 ((wrap64 (x6 + 1)) + 1))) else (if (bt x0 x6) = 92 then (if 0 ≤ (wrap64 (x6 + 1)) then (if (wrap64 (x6 + 1)) ≤ (x0.size : Int) then ((lex_escaped.f (x0.extract ((wrap64 (x6 + 1)) : Int).toNat x0.size)).bind fun t454 => (if t454 = 0 then (if (wrap64 (x6 + 1)) < (x0.size : Int) then (if x5.length < 140737488355328 then (lex_quoted.l0 k x0 (x5 ++ [bt x0 (wrap64 (x6 + 1))]) (wrap64 ((wrap64 (x6 + 1)) + 1))) else (none)) else (none)) else (some (0, (⟨#[]⟩ : ByteArray), (⟨#[]⟩ : ByteArray), t454)))) else (none)) else (none)) else (if (bt x0 x6) = 34 then (if 0 ≤ (wrap64 (x6 + 1)) then (if (wrap64 (x6 + 1)) ≤ (x0.size : Int) then (some (2, strOfNums x5, x0.extract ((wrap64 (x6 + 1)) : Int).toNat x0.size, 0)) else (none)) else (none)) else ((lex_text.f (bt x0 x6)).bind fun t458 => (if t458 = true then (if x5.length < 140737488355328 then (lex_quoted.l0 k x0 (x5 ++ [bt x0 x6]) (wrap64 (x6 + 1))) else (none)) else (some (0, (⟨#[]⟩ : ByteArray), (⟨#[]⟩ : ByteArray), 3)))))))) else (none)) else (none)) else (some (0, (⟨#[]⟩ : ByteArray), (⟨#[]⟩ : ByteArray), 9))
def lex_quoted.f (k : Nat) (a0 : ByteArray) : Option (Int × ByteArray × ByteArray × Int) := lex_quoted.l0 k a0 ([] : List Int) 1
def lex_quoted.T16 : Bool × List (List Nat × List Nat) := (true, [([], []), ([0], [0]), ([1], [1]), ([], []), ([], []), ([4], [4]), ([3, 5], [3, 5]), ([2, 0, 1, 2], [2]), ([6, 7, 0, 1, 2, 3, 4, 5, 6, 7], [6]), ([8, 0, 1, 2, 3, 4, 5, 6, 7, 8], [])])
def lex_quoted.B16 : List Nat := [0, 1, 3, 0, 0, 16, 56, 7, 255, 511]
theorem lex_quoted.tab16 : rtab .any (opsOf Tryz.f201 16) = lex_quoted.T16 := by kernel_rfl
theorem lex_quoted.bits16 : waitsOk lex_quoted.T16.2 lex_quoted.B16 = true := by kernel_rfl
set_option maxRecDepth 100000 in
theorem lex_quoted.calls (k : Nat) (a0 : ByteArray) (r1 : Int) (r2 : ByteArray) (r3 : ByteArray) (r4 : Int) (w : World) (h : lex_quoted.f k a0 = some (r1, r2, r3, r4)) :
  Calls Tryz.prog 201 #[.string a0] w fun e w' => e = .returned (.tuple #[.agg #[.int .i64 r1, .string r2], .string r3, .int .i64 r4]) ∧ Below w.heap.size w w' := by
 have hu194 := Tryz.underlying194; have HB := Aside0.mk (Below.refl w.heap.size w); have H : (lex_quoted.l0 k a0 ([] : List Int) 1) = some (r1, r2, r3, r4) := h; clear h; have H' := Aside0.mk H; clear H
 go_enter Tryz.func201, Tryz.ntmps201
 go_wp2_with (first | ((with_reducible refine gate_dst (N := 2) rfl ?_); refine box_event ?hg (N := 2) ?hd (cs := #[.int .i64 0, .string (⟨#[]⟩ : ByteArray)]) (t := 194) ?hr ?_; (case hd => rfl); (case hg => rfl); (case hr => first | (go_simp; done) | (go_simp; rfl)); intro gb452 hg w2 hbox hb; have n0_ := Aside0.mk (below_step bw hb); have n1_ := Aside0.mk (hbox); have n2_ := Aside0.mk ((by rw [hg]; exact (below_size bw) : w.heap.size ≤ gb452)); have n3_ := Aside0.mk ((by rw [hg]; exact (below_size bw) : w.heap.size ≤ gb452)); clear HB; have HB := n0_; have BK452 := n1_; have GW452 := n2_; have GE452 := n3_; clear n0_ n1_ n2_ n3_; clear hb hbox hg))
 go_loopg [5, 6] k (fun kq v5 v6 w' => ∃ (x5_1 : List Int) (x6_1 : Int) (x453000_1 : Int) (x453001_1 : ByteArray), v6 = .int .i64 x6_1 ∧ Aside0 (lex_quoted.l0 kq a0 x5_1 x6_1 = some (r1, r2, r3, r4)) ∧ Aside0 (kq ≤ k) ∧ Aside0 (Kd.R (Kd.int .u8) 5 w' w.heap.size (fun _ => True) v5 x5_1) ∧ Aside0 (w'.heap[gb452]? = some (.cells #[.int .i64 x453000_1, .string x453001_1] 194 (0, 0))) ∧ Aside0 (Below w.heap.size w w'))
 case atStart => exact ⟨(([] : List Int)), (1), (0), ((⟨#[]⟩ : ByteArray)), cl, H', ⟨Nat.le_refl _⟩, ⟨by first | exact Kd.R_nil _ _ _ _ _ | exact Kd.N_nil _ _ _ _ _ | exact Kd.V_nil _ _ _ _ _ | exact Kd.Q_nil _ _ _ _ _ | exact Kd.S_nil _ _ _ _ _⟩, ⟨bk⟩, ⟨bwS⟩⟩
 case round =>
  clear H'; obtain ⟨x5_1, x6_1, x453000_1, x453001_1, rfl, HA, HK1, HO_5, BK452, HB⟩ := hrel; cases gk with
  | zero => exact absurd HA.out (by simp [lex_quoted.l0])
  | succ k1 =>
   have H := HA.out; clear HA; simp only [lex_quoted.l0] at H
   by_cases c3 : x6_1 < (a0.size : Int)
   ·rw [if_pos c3] at H; have c3b0 := decide_eq_true c3; clear c3
    by_cases c4 : 0 ≤ x6_1
    ·rw [if_pos c4] at H; have c4b0 := decide_eq_true c4; clear c4; have c6b0 := eq_true (od : 0 ≤ x6_1)
     by_cases c7 : x6_1 ≤ (a0.size : Int)
     ·rw [if_pos c7] at H; have c7b0 := eq_true c7; have c7b1 := decide_eq_true c7; clear c7; replace H := Option.bind_eq_some_iff.mp H; obtain ⟨t453, A80, H⟩ := H; have A8 := Aside0.mk A80; clear A80
      by_cases c9 : t453 = true
      ·subst c9; rw [if_pos rfl] at H; have H' := Aside0.mk H; clear H; have p5 : 0 ≤ (x6_1 : Int) := od; have q5 : x6_1 < (a0.size : Int) := od; have hx5 := bt_at a0 x6_1; replace p5 := eq_true p5; replace q5 := eq_true q5
       go_wp2_with (first | ((with_reducible refine gate_callee (f := 199) rfl ?_); refine goesL_ (some 26) rfl rfl Tryz.func199 (by kernel_rfl) rfl #[.string (a0.extract (x6_1 : Int).toNat a0.size)] rfl am ?_; (with_reducible refine (lex_fold.calls (a0.extract (x6_1 : Int).toNat a0.size) true _ A8.out).mono ?_); rintro e w' ⟨rfl, ⟨nd, rfl⟩⟩; refine ⟨_, rfl, ?_⟩))
       go_roundg k1
       case measure => have := HK1.out; omega
       case rel => exact ⟨(x5_1), (wrap64 ((wrap64 (x6_1 + 1)) + 1)), (x453000_1), (x453001_1), cl, H', ⟨by have := HK1.out; omega⟩, ⟨ra HO_5.out⟩, ⟨bk⟩, ⟨bwS⟩⟩
      replace c9 := Bool.eq_false_iff.mpr c9; subst c9; rw [if_neg nft] at H
      by_cases c10 : (bt a0 x6_1) = 92
      ·rw [if_pos c10] at H; have c10b0 := beq_iff_eq.mpr c10; have c10b1 := bne_eq_false_iff_eq.mpr c10; clear c10; obtain ⟨ji11, hji11⟩ : ∃ j_ : Int, (wrap64 (x6_1 + 1)) = j_ := ⟨_, rfl⟩
       replace H : (if 0 ≤ (ji11) then (if (ji11) ≤ (a0.size : Int) then ((lex_escaped.f (a0.extract ((ji11) : Int).toNat a0.size)).bind fun t454 => (if t454 = 0 then (if (ji11) < (a0.size : Int) then (if x5_1.length < 140737488355328 then (lex_quoted.l0 k1 a0 (x5_1 ++ [bt a0 (ji11)]) (wrap64 ((ji11) + 1))) else (none)) else (none)) else (some (0, (⟨#[]⟩ : ByteArray), (⟨#[]⟩ : ByteArray), t454)))) else (none)) else (none)) = some (r1, r2, r3, r4) := by first | (rw [hji11] at H; exact H) | (simp only [hji11] at H ⊢; exact H)
       (try rw [hji11] at A8)
       have hji11w : (IntKind.i64.wrap (x6_1 + 1)) = ji11 := (i64_w _).trans hji11
       by_cases c12 : 0 ≤ (ji11)
       ·rw [if_pos c12] at H; have c12b0 := eq_true c12; have c12b1 := decide_eq_true c12; clear c12
        by_cases c13 : (ji11) ≤ (a0.size : Int)
        ·rw [if_pos c13] at H; have c13b0 := eq_true c13; have c13b1 := decide_eq_true c13; clear c13; replace H := Option.bind_eq_some_iff.mp H; obtain ⟨t454, A140, H⟩ := H; have A14 := Aside0.mk A140; clear A140
         by_cases c15 : t454 = 0
         ·rw [if_pos c15] at H; have c15b0 := beq_iff_eq.mpr c15; have c15b1 := bne_eq_false_iff_eq.mpr c15; clear c15
          by_cases c16 : (ji11) < (a0.size : Int)
          ·rw [if_pos c16] at H; have c16b0 := decide_eq_true c16; clear c16
           by_cases c18 : x5_1.length < 140737488355328
           ·rw [if_pos c18] at H; have LMc18 := Aside0.mk c18; clear c18; obtain ⟨y455, hy455⟩ : ∃ y_ : List Int, y_ = (x5_1 ++ [bt a0 (ji11)]) := ⟨_, rfl⟩
            replace H : (lex_quoted.l0 k1 a0 y455 (wrap64 ((ji11) + 1))) = some (r1, r2, r3, r4) := by first | (rw [hy455]; with_reducible exact H) | (have H2_ := (Option.bind_some _ _).symm.trans H; rw [hy455]; with_reducible exact H2_) | (have H2_ := (Option.bind_some _ _).symm.trans H; with_reducible exact H2_) | with_reducible exact H | (rw [hy455]; exact H) | exact H
            have Ny455 := Aside0.mk hy455; clear hy455; have H' := Aside0.mk H; clear H; have p5 : 0 ≤ (x6_1 : Int) := od; have q5 : x6_1 < (a0.size : Int) := od; have hx5 := bt_at a0 x6_1; replace p5 := eq_true p5; replace q5 := eq_true q5
            go_wp2_with (first | ((with_reducible refine gate_callee (f := 199) rfl ?_); refine goesL_ (some 26) rfl rfl Tryz.func199 (by kernel_rfl) rfl #[.string (a0.extract (x6_1 : Int).toNat a0.size)] rfl am ?_; (with_reducible refine (lex_fold.calls (a0.extract (x6_1 : Int).toNat a0.size) false _ A8.out).mono ?_); rintro e w' ⟨rfl, ⟨nd, rfl⟩⟩; refine ⟨_, rfl, ?_⟩) | ((with_reducible refine gate_callee (f := 210) rfl ?_); refine goesL_ (some 37) rfl rfl Tryz.func210 (by kernel_rfl) rfl #[.string (a0.extract ((ji11) : Int).toNat a0.size)] rfl (by (try simp only [List.map_toArray, List.map_cons, List.map_nil]); first | done | (simp only [hji11]; rfl) | rfl | (simp only [List.length_drop, List.length_take]; rfl)) ?_; (with_reducible refine (lex_escaped.calls (a0.extract ((ji11) : Int).toNat a0.size) t454 _ A14.out).mono ?_); rintro e w' ⟨rfl, ⟨nd, rfl⟩⟩; refine ⟨_, rfl, ?_⟩; have p17 : 0 ≤ ((ji11) : Int) := od; have q17 : (ji11) < (a0.size : Int) := od; have hx17 := bt_at a0 (ji11); replace p17 := eq_true p17; replace q17 := eq_true q17) | ((with_reducible refine gate_builtin (b := .append) (xs := #[.tmp 42, .tmp 46]) rfl ?_); at_builtin; refine Kd.R_append (Kd.int .u8) (w0 := w) w.heap.size rfl (.tmp 42) (.tmp 46) 83 5 (.int .u8 0) 1 rfl Tryz.underlying83 info5 rfl (by decide) (by omega) u5 x5_1 (bt a0 (ji11)) [.int .u8 (bt a0 (ji11))] (fun _ => True) (fun _ => False) rfl rfl ?aP (fun _ hk => hk.elim) ?aF ?aO ?aB ?aS ?aL ?_; (case aP => exact rfl); (case aB => exact bwS); (case aF => exact (fun _ _ => trivial)); (case aO => exact (ra HO_5.out)); (case aS => exact (below_size bwS)); (case aL => have := LMc18.out; omega); intro v456 w19 ho hb hg hat; rw [← Ny455.out] at ho; have n0_ := Aside0.mk (blk_grown (g := gb452) (o := .cells #[.int .i64 x453000_1, .string x453001_1] 194 (0, 0)) bk hg (Kd.R_ne HO_5.out BK452.out (by decide))); have n1_ := Aside0.mk (hb); have n2_ := Aside0.mk (ho); clear BK452; clear HB; clear HO_5; have BK452 := n0_; have HB := n1_; have HO457 := n2_; clear n0_ n1_ n2_; clear ho hb hg hat))
            go_roundg k1
            case measure => have := HK1.out; omega
            case rel => exact ⟨(y455), (wrap64 ((ji11) + 1)), (x453000_1), (x453001_1), (by first | rfl | (simp; done) | (simp only [← hji11] <;> (first | rfl | simp)) | (simp [*]; done) | (simp [nil_ne]; done) | (simp [u8_w, i64w_]; done) | (simp [size_lit]; done) | (simp; unfold wrap64; omega)), H', ⟨by have := HK1.out; omega⟩, ⟨ra HO457.out⟩, ⟨bk⟩, ⟨bwS⟩⟩
           rw [if_neg c18] at H; exact absurd H (by simp)
          rw [if_neg c16] at H; exact absurd H (by simp)
         rw [if_neg c15] at H; have c15b0 := beq_eq_false_iff_ne.mpr c15; have c15b1 := bne_iff_ne.mpr c15; simp only [Option.some.injEq, Prod.mk.injEq] at H; obtain ⟨rfl, rfl, rfl, rfl⟩ := H; have p5 : 0 ≤ (x6_1 : Int) := od; have q5 : x6_1 < (a0.size : Int) := od; have hx5 := bt_at a0 x6_1; replace p5 := eq_true p5; replace q5 := eq_true q5
         go_wp2_with (first | ((with_reducible refine gate_callee (f := 199) rfl ?_); refine goesL_ (some 26) rfl rfl Tryz.func199 (by kernel_rfl) rfl #[.string (a0.extract (x6_1 : Int).toNat a0.size)] rfl am ?_; (with_reducible refine (lex_fold.calls (a0.extract (x6_1 : Int).toNat a0.size) false _ A8.out).mono ?_); rintro e w' ⟨rfl, ⟨nd, rfl⟩⟩; refine ⟨_, rfl, ?_⟩; (try (rw [drewN_self wr]; generalize hq_ : World.drewN wr _ = wr; have n0_ : Aside0 (Kd.R (Kd.int .u8) 5 wr w.heap.size (fun _ => True) u5 x5_1) := ⟨by rw [← hq_]; exact (ra HO_5.out)⟩; have n1_ : Aside0 (wr.heap[gb452]? = some (.cells #[.int .i64 x453000_1, .string x453001_1] 194 (0, 0))) := ⟨by rw [← hq_]; exact bk⟩; have n2_ : Aside0 (Below w.heap.size w wr) := ⟨by rw [← hq_]; exact bwS⟩; clear HO_5 BK452 HB hq_; have HO_5 := n0_; have BK452 := n1_; have HB := n2_; clear n0_ n1_ n2_))) | ((with_reducible refine gate_callee (f := 210) rfl ?_); refine goesL_ (some 37) rfl rfl Tryz.func210 (by kernel_rfl) rfl #[.string (a0.extract ((ji11) : Int).toNat a0.size)] rfl (by (try simp only [List.map_toArray, List.map_cons, List.map_nil]); first | done | (simp only [hji11]; rfl) | rfl | (simp only [List.length_drop, List.length_take]; rfl)) ?_; (with_reducible refine (lex_escaped.calls (a0.extract ((ji11) : Int).toNat a0.size) t454 _ A14.out).mono ?_); rintro e w' ⟨rfl, ⟨nd, rfl⟩⟩; refine ⟨_, rfl, ?_⟩; (try (rw [drewN_self wr]; generalize hq_ : World.drewN wr _ = wr; have n0_ : Aside0 (Kd.R (Kd.int .u8) 5 wr w.heap.size (fun _ => True) u5 x5_1) := ⟨by rw [← hq_]; exact (ra HO_5.out)⟩; have n1_ : Aside0 (wr.heap[gb452]? = some (.cells #[.int .i64 x453000_1, .string x453001_1] 194 (0, 0))) := ⟨by rw [← hq_]; exact bk⟩; have n2_ : Aside0 (Below w.heap.size w wr) := ⟨by rw [← hq_]; exact bwS⟩; clear HO_5 BK452 HB hq_; have HO_5 := n0_; have BK452 := n1_; have HB := n2_; clear n0_ n1_ n2_)); obtain ⟨hcz20_0, hcz20_1⟩ := ce2 BK452; obtain ⟨hfz20_0, hfz20_1⟩ := fz2 BK452))
         refine bodyPost_ret (results_ctt rfl _ _ gb452 194 #[.int .i64 0, .string (⟨#[]⟩ : ByteArray)] (0, 0) _ rfl (by (with_reducible repeat (first | refine blk_drewN ?_ _ | refine blk_drew ?_ | refine blk_alloc ?_ _)); refine blk_put (cs := #[.int .i64 0, .string x453001_1]) ?_ 1 _ rfl; (with_reducible repeat (first | refine blk_drewN ?_ _ | refine blk_drew ?_ | refine blk_alloc ?_ _)); exact blk_put (cs := #[.int .i64 x453000_1, .string x453001_1]) bk 0 _ rfl) Tryz.underlying194 rfl (by kernel_rfl)) rfl ?_; exact ⟨by first | rfl | (simp [errW_none, errW_some] <;> rfl) | (simp only [← hji11]; first | rfl | (simp [errW_none, errW_some] <;> rfl)) | (simp [*, errW_none, errW_some] <;> rfl), bwS⟩
        rw [if_neg c13] at H; exact absurd H (by simp)
       rw [if_neg c12] at H; exact absurd H (by simp)
      rw [if_neg c10] at H; have c10b0 := beq_eq_false_iff_ne.mpr c10; have c10b1 := bne_iff_ne.mpr c10
      by_cases c21 : (bt a0 x6_1) = 34
      ·rw [if_pos c21] at H; have c21b0 := beq_iff_eq.mpr c21; have c21b1 := bne_eq_false_iff_eq.mpr c21; clear c21; obtain ⟨ji22, hji22⟩ : ∃ j_ : Int, (wrap64 (x6_1 + 1)) = j_ := ⟨_, rfl⟩
       replace H : (if 0 ≤ (ji22) then (if (ji22) ≤ (a0.size : Int) then (some (2, strOfNums x5_1, a0.extract ((ji22) : Int).toNat a0.size, 0)) else (none)) else (none)) = some (r1, r2, r3, r4) := by first | (rw [hji22] at H; exact H) | (simp only [hji22] at H ⊢; exact H)
       (try rw [hji22] at A8)
       have hji22w : (IntKind.i64.wrap (x6_1 + 1)) = ji22 := (i64_w _).trans hji22
       by_cases c23 : 0 ≤ (ji22)
       ·rw [if_pos c23] at H; have c23b0 := eq_true c23; have c23b1 := decide_eq_true c23; clear c23
        by_cases c24 : (ji22) ≤ (a0.size : Int)
        ·rw [if_pos c24] at H; have c24b0 := eq_true c24; have c24b1 := decide_eq_true c24; clear c24; simp only [Option.some.injEq, Prod.mk.injEq] at H; obtain ⟨rfl, rfl, rfl, rfl⟩ := H; have p5 : 0 ≤ (x6_1 : Int) := od; have q5 : x6_1 < (a0.size : Int) := od; have hx5 := bt_at a0 x6_1; replace p5 := eq_true p5; replace q5 := eq_true q5
         try go_wp2_with (first | ((with_reducible refine gate_callee (f := 199) rfl ?_); refine goesL_ (some 26) rfl rfl Tryz.func199 (by kernel_rfl) rfl #[.string (a0.extract (x6_1 : Int).toNat a0.size)] rfl am ?_; (with_reducible refine (lex_fold.calls (a0.extract (x6_1 : Int).toNat a0.size) false _ A8.out).mono ?_); rintro e w' ⟨rfl, ⟨nd, rfl⟩⟩; refine ⟨_, rfl, ?_⟩; (try (rw [drewN_self wr]; generalize hq_ : World.drewN wr _ = wr; have n0_ : Aside0 (Kd.R (Kd.int .u8) 5 wr w.heap.size (fun _ => True) u5 x5_1) := ⟨by rw [← hq_]; exact (ra HO_5.out)⟩; have n1_ : Aside0 (wr.heap[gb452]? = some (.cells #[.int .i64 x453000_1, .string x453001_1] 194 (0, 0))) := ⟨by rw [← hq_]; exact bk⟩; have n2_ : Aside0 (Below w.heap.size w wr) := ⟨by rw [← hq_]; exact bwS⟩; clear HO_5 BK452 HB hq_; have HO_5 := n0_; have BK452 := n1_; have HB := n2_; clear n0_ n1_ n2_))))
         have n0_ := Aside0.mk (Kd.R_drew HO_5.out); have n1_ := Aside0.mk (blk_drew BK452.out); have n2_ := Aside0.mk (below_drew1 HB.out); clear HO_5 BK452 HB; have HO_5 := n0_; have BK452 := n1_; have HB := n2_; clear n0_ n1_ n2_; have hcv26 := own_string (P := Tryz.prog) Tryz.underlying83 Tryz.underlying5 Tryz.underlying9 (Kd.own_of_R HO_5.out); refine start_conv (n := 10) (ds := [7]) #[false, false, false, false, false, false, false, false, false, false] (by kernel_rfl) rfl rfl hcv26 (fun hHeld => ?_); refine with_tabW lex_quoted.tab16 lex_quoted.bits16 (fun HT_ HW_ => ?_)
         generalize wr.drew = w25 at HO_5 BK452 HB hHeld ⊢
         refine pure_ (i := 0) (N := some 51) (v := ?_) (a' := ?_) (bitsL 10 1) rfl rfl (any_of HT_.out (by kernel_rfl)) (fun _ _ _ h => h) (Or.inl ⟨by rfl, ?_⟩) ?_ ?_; rotate_left
         ·intro w'; go_simp; with_reducible rfl
         rotate_left
         ·simp only [Act.put, sa_, sz_, ss_, i64_w, i32_w]; rfl
         refine take_ (i := 1) (N := some 52) (v := ?_) (a' := ?_) (bitsL 10 3) rfl rfl (take_ofW HT_.out HW_.out (by kernel_rfl)) (fun _ _ _ h => h) (Or.inl ⟨by rfl, ?_⟩) hHeld ?_ ?_; rotate_left
         ·intro w' s0; go_simp; with_reducible rfl
         rotate_left
         ·simp only [Act.put, sa_, sz_, ss_, i64_w, i32_w]; rfl
         refine pure_ (i := 2) (N := some 53) (v := ?_) (a' := ?_) (bitsL 10 7) rfl rfl (any_of HT_.out (by kernel_rfl)) (fun _ _ _ h => h) (Or.inl ⟨by rfl, ?_⟩) ?_ ?_; rotate_left
         ·intro w'; go_simp; with_reducible rfl
         rotate_left
         ·simp only [Act.put, sa_, sz_, ss_, i64_w, i32_w]; rfl
         refine pure_ (i := 3) (N := some 54) (v := ?_) (a' := ?_) (bitsL 10 15) rfl rfl (any_of HT_.out (by kernel_rfl)) (fun _ _ _ h => h) (Or.inl ⟨by rfl, ?_⟩) ?_ ?_; rotate_left
         ·intro w'; go_simp; with_reducible rfl
         rotate_left
         ·simp only [Act.put, sa_, sz_, ss_, i64_w, i32_w]; rfl
         refine pure_ (i := 4) (N := some 55) (v := ?_) (a' := ?_) (bitsL 10 31) rfl rfl (any_of HT_.out (by kernel_rfl)) (fun _ _ _ h => h) (Or.inl ⟨by rfl, ?_⟩) ?_ ?_; rotate_left
         ·intro w'; go_simp; with_reducible rfl
         rotate_left
         ·simp only [Act.put, sa_, sz_, ss_, i64_w, i32_w]; rfl
         refine pure_ (i := 5) (N := some 56) (v := ?_) (a' := ?_) (bitsL 10 63) rfl rfl (any_of HT_.out (by kernel_rfl)) (fun _ _ _ h => h) (Or.inl ⟨by rfl, ?_⟩) ?_ ?_; rotate_left
         ·intro w'; go_simp; with_reducible rfl
         rotate_left
         ·simp only [Act.put, sa_, sz_, ss_, i64_w, i32_w]; rfl
         refine pure_ (i := 6) (N := some 57) (v := ?_) (a' := ?_) (bitsL 10 127) rfl rfl (any_of HT_.out (by kernel_rfl)) (fun _ _ _ h => h) (Or.inl ⟨by rfl, ?_⟩) ?_ ?_; rotate_left
         ·intro w'; go_simp; with_reducible rfl
         rotate_left
         ·simp only [Act.put, sa_, sz_, ss_, i64_w, i32_w]; rfl
         refine last_ (i := 7) (N := none) (bitsL 10 255) rfl rfl (one_of HT_.out (by kernel_rfl)) (by decide) (fun K hK => ?_); have hs27 : w25.cell? ⟨gb452, 0, none⟩ = some (.int .i64 x453000_1) := (blk_cell BK452.out 0).trans rfl; have hfs27 := blk_frozen BK452.out 0; have hs28 : w25.cell? ⟨gb452, 1, none⟩ = some (.string x453001_1) := (blk_cell BK452.out 1).trans rfl; have hfs28 := blk_frozen BK452.out 1; refine skip_ (w1 := ?_) (by rfl) rfl ?_ ?_; rotate_left
         ·go_simp; rfl
         refine hK.out _ _ ?_; clear hK K; refine pure_ (i := 8) (N := some 3) (v := ?_) (a' := ?_) (bitsL 10 511) rfl rfl (any_of HT_.out (by kernel_rfl)) (fun _ _ _ h => h) (Or.inl ⟨by rfl, ?_⟩) ?_ ?_; rotate_left
         ·intro w'; go_simp; with_reducible rfl
         rotate_left
         ·simp only [Act.put, sa_, sz_, ss_, i64_w, i32_w]; rfl
         refine pure_ (i := 9) (N := some 4) (v := ?_) (a' := ?_) (bitsL 10 1023) rfl rfl (any_of HT_.out (by kernel_rfl)) (fun _ _ _ h => h) (Or.inl ⟨by rfl, ?_⟩) ?_ ?_; rotate_left
         ·intro w'; go_simp; with_reducible rfl
         rotate_left
         ·simp only [Act.put, sa_, sz_, ss_, i64_w, i32_w]; rfl
         refine done_ (done_of HT_.out (by kernel_rfl)) ?_
         try go_wp2
         refine bodyPost_ret (results_ctt rfl _ _ gb452 194 #[.int .i64 2, .string (strOfNums x5_1)] (0, 0) _ rfl (by (with_reducible repeat (first | refine blk_drewN ?_ _ | refine blk_drew ?_ | refine blk_alloc ?_ _)); refine blk_put (cs := #[.int .i64 2, .string x453001_1]) ?_ 1 _ rfl; (with_reducible repeat (first | refine blk_drewN ?_ _ | refine blk_drew ?_ | refine blk_alloc ?_ _)); exact blk_put (cs := #[.int .i64 x453000_1, .string x453001_1]) bk 0 _ rfl) Tryz.underlying194 rfl (by kernel_rfl)) rfl ?_; exact ⟨by first | rfl | (simp [errW_none, errW_some] <;> rfl) | (simp only [← hji22]; first | rfl | (simp [errW_none, errW_some] <;> rfl)) | (simp [*, errW_none, errW_some] <;> rfl), bwS⟩
        rw [if_neg c24] at H; exact absurd H (by simp)
       rw [if_neg c23] at H; exact absurd H (by simp)
      rw [if_neg c21] at H; have c21b0 := beq_eq_false_iff_ne.mpr c21; have c21b1 := bne_iff_ne.mpr c21; replace H := Option.bind_eq_some_iff.mp H; obtain ⟨t458, A290, H⟩ := H; have A29 := Aside0.mk A290; clear A290
      by_cases c30 : t458 = true
      ·subst c30; rw [if_pos rfl] at H
       by_cases c31 : x5_1.length < 140737488355328
       ·rw [if_pos c31] at H; have LMc31 := Aside0.mk c31; clear c31; obtain ⟨y459, hy459⟩ : ∃ y_ : List Int, y_ = (x5_1 ++ [bt a0 x6_1]) := ⟨_, rfl⟩
        replace H : (lex_quoted.l0 k1 a0 y459 (wrap64 (x6_1 + 1))) = some (r1, r2, r3, r4) := by first | (rw [hy459]; with_reducible exact H) | (have H2_ := (Option.bind_some _ _).symm.trans H; rw [hy459]; with_reducible exact H2_) | (have H2_ := (Option.bind_some _ _).symm.trans H; with_reducible exact H2_) | with_reducible exact H | (rw [hy459]; exact H) | exact H
        have Ny459 := Aside0.mk hy459; clear hy459; have H' := Aside0.mk H; clear H; have p5 : 0 ≤ (x6_1 : Int) := od; have q5 : x6_1 < (a0.size : Int) := od; have hx5 := bt_at a0 x6_1; replace p5 := eq_true p5; replace q5 := eq_true q5
        go_wp2_with (first | ((with_reducible refine gate_callee (f := 199) rfl ?_); refine goesL_ (some 26) rfl rfl Tryz.func199 (by kernel_rfl) rfl #[.string (a0.extract (x6_1 : Int).toNat a0.size)] rfl am ?_; (with_reducible refine (lex_fold.calls (a0.extract (x6_1 : Int).toNat a0.size) false _ A8.out).mono ?_); rintro e w' ⟨rfl, ⟨nd, rfl⟩⟩; refine ⟨_, rfl, ?_⟩) | ((with_reducible refine gate_callee (f := 108) rfl ?_); refine goesL_ (some 60) rfl rfl Tryz.func108 (by kernel_rfl) rfl #[.int .u8 (bt a0 x6_1)] rfl am ?_; (with_reducible refine (lex_text.calls (bt a0 x6_1) true _ A29.out).mono ?_); rintro e w' ⟨rfl, ⟨nd, rfl⟩⟩; refine ⟨_, rfl, ?_⟩) | ((with_reducible refine gate_builtin (b := .append) (xs := #[.tmp 18, .tmp 20]) rfl ?_); at_builtin; refine Kd.R_append (Kd.int .u8) (w0 := w) w.heap.size rfl (.tmp 18) (.tmp 20) 83 5 (.int .u8 0) 1 rfl Tryz.underlying83 info5 rfl (by decide) (by omega) u5 x5_1 (bt a0 x6_1) [.int .u8 (bt a0 x6_1)] (fun _ => True) (fun _ => False) rfl rfl ?aP (fun _ hk => hk.elim) ?aF ?aO ?aB ?aS ?aL ?_; (case aP => exact rfl); (case aB => exact bwS); (case aF => exact (fun _ _ => trivial)); (case aO => exact (ra HO_5.out)); (case aS => exact (below_size bwS)); (case aL => have := LMc31.out; omega); intro v460 w32 ho hb hg hat; rw [← Ny459.out] at ho; have n0_ := Aside0.mk (blk_grown (g := gb452) (o := .cells #[.int .i64 x453000_1, .string x453001_1] 194 (0, 0)) bk hg (Kd.R_ne HO_5.out BK452.out (by decide))); have n1_ := Aside0.mk (hb); have n2_ := Aside0.mk (ho); clear BK452; clear HB; clear HO_5; have BK452 := n0_; have HB := n1_; have HO461 := n2_; clear n0_ n1_ n2_; clear ho hb hg hat))
        go_roundg k1
        case measure => have := HK1.out; omega
        case rel => exact ⟨(y459), (wrap64 (x6_1 + 1)), (x453000_1), (x453001_1), cl, H', ⟨by have := HK1.out; omega⟩, ⟨ra HO461.out⟩, ⟨bk⟩, ⟨bwS⟩⟩
       rw [if_neg c31] at H; exact absurd H (by simp)
      replace c30 := Bool.eq_false_iff.mpr c30; subst c30; rw [if_neg nft] at H; simp only [Option.some.injEq, Prod.mk.injEq] at H; obtain ⟨rfl, rfl, rfl, rfl⟩ := H; have p5 : 0 ≤ (x6_1 : Int) := od; have q5 : x6_1 < (a0.size : Int) := od; have hx5 := bt_at a0 x6_1; replace p5 := eq_true p5; replace q5 := eq_true q5
      go_wp2_with (first | ((with_reducible refine gate_callee (f := 199) rfl ?_); refine goesL_ (some 26) rfl rfl Tryz.func199 (by kernel_rfl) rfl #[.string (a0.extract (x6_1 : Int).toNat a0.size)] rfl am ?_; (with_reducible refine (lex_fold.calls (a0.extract (x6_1 : Int).toNat a0.size) false _ A8.out).mono ?_); rintro e w' ⟨rfl, ⟨nd, rfl⟩⟩; refine ⟨_, rfl, ?_⟩; (try (rw [drewN_self wr]; generalize hq_ : World.drewN wr _ = wr; have n0_ : Aside0 (Kd.R (Kd.int .u8) 5 wr w.heap.size (fun _ => True) u5 x5_1) := ⟨by rw [← hq_]; exact (ra HO_5.out)⟩; have n1_ : Aside0 (wr.heap[gb452]? = some (.cells #[.int .i64 x453000_1, .string x453001_1] 194 (0, 0))) := ⟨by rw [← hq_]; exact bk⟩; have n2_ : Aside0 (Below w.heap.size w wr) := ⟨by rw [← hq_]; exact bwS⟩; clear HO_5 BK452 HB hq_; have HO_5 := n0_; have BK452 := n1_; have HB := n2_; clear n0_ n1_ n2_))) | ((with_reducible refine gate_callee (f := 108) rfl ?_); refine goesL_ (some 60) rfl rfl Tryz.func108 (by kernel_rfl) rfl #[.int .u8 (bt a0 x6_1)] rfl am ?_; (with_reducible refine (lex_text.calls (bt a0 x6_1) false _ A29.out).mono ?_); rintro e w' ⟨rfl, ⟨nd, rfl⟩⟩; refine ⟨_, rfl, ?_⟩; (try (rw [drewN_self wr]; generalize hq_ : World.drewN wr _ = wr; have n0_ : Aside0 (Kd.R (Kd.int .u8) 5 wr w.heap.size (fun _ => True) u5 x5_1) := ⟨by rw [← hq_]; exact (ra HO_5.out)⟩; have n1_ : Aside0 (wr.heap[gb452]? = some (.cells #[.int .i64 x453000_1, .string x453001_1] 194 (0, 0))) := ⟨by rw [← hq_]; exact bk⟩; have n2_ : Aside0 (Below w.heap.size w wr) := ⟨by rw [← hq_]; exact bwS⟩; clear HO_5 BK452 HB hq_; have HO_5 := n0_; have BK452 := n1_; have HB := n2_; clear n0_ n1_ n2_)); obtain ⟨hcz33_0, hcz33_1⟩ := ce2 BK452; obtain ⟨hfz33_0, hfz33_1⟩ := fz2 BK452))
      refine bodyPost_ret (results_ctt rfl _ _ gb452 194 #[.int .i64 0, .string (⟨#[]⟩ : ByteArray)] (0, 0) _ rfl (by (with_reducible repeat (first | refine blk_drewN ?_ _ | refine blk_drew ?_ | refine blk_alloc ?_ _)); refine blk_put (cs := #[.int .i64 0, .string x453001_1]) ?_ 1 _ rfl; (with_reducible repeat (first | refine blk_drewN ?_ _ | refine blk_drew ?_ | refine blk_alloc ?_ _)); exact blk_put (cs := #[.int .i64 x453000_1, .string x453001_1]) bk 0 _ rfl) Tryz.underlying194 rfl (by kernel_rfl)) rfl ?_; exact ⟨ew, bwS⟩
     rw [if_neg c7] at H; exact absurd H (by simp)
    rw [if_neg c4] at H; exact absurd H (by simp)
   rw [if_neg c3] at H; have c3b0 := decide_eq_false c3; clear c3; simp only [Option.some.injEq, Prod.mk.injEq] at H; obtain ⟨rfl, rfl, rfl, rfl⟩ := H; obtain ⟨hcz34_0, hcz34_1, hfz34_0, hfz34_1⟩ := bk2 BK452.out
   go_wp2
   refine bodyPost_ret (results_ctt rfl _ _ gb452 194 #[.int .i64 0, .string (⟨#[]⟩ : ByteArray)] (0, 0) _ rfl (by (with_reducible repeat (first | refine blk_drewN ?_ _ | refine blk_drew ?_ | refine blk_alloc ?_ _)); refine blk_put (cs := #[.int .i64 0, .string x453001_1]) ?_ 1 _ rfl; (with_reducible repeat (first | refine blk_drewN ?_ _ | refine blk_drew ?_ | refine blk_alloc ?_ _)); exact blk_put (cs := #[.int .i64 x453000_1, .string x453001_1]) bk 0 _ rfl) Tryz.underlying194 rfl (by kernel_rfl)) rfl ?_; exact ⟨ew, bwS⟩
def bulletinref12_Text.f (a0 : Int) : Option (Bool) := if a0 = 9 then (some true) else (if a0 ≥ 32 then (if a0 ≤ 126 then (some true) else (some (decide (a0 > 127)))) else (some (decide (a0 > 127))))
end Go.Proofs.YtcndmhpeolbepaaGreatDoor.Fn
namespace Go.Proofs.YtcndmhpeolbepaaGreatDoor.Fn
open Go.RowKit Go.Proofs.YtcndmhpeolbepaaGreatDoorW.PrintWords Go.Proofs.YtcndmhpeolbepaaGreatDoorW.PrintLast Go.Proofs.YtcndmhpeolbepaaGreatDoorW.PrintMore
attribute [local go_sem] max2_int min2_int max_two min_two max_three min_three max_four min_four
set_option linter.unusedVariables false
set_option linter.unusedSimpArgs false

mutual
def bulletinref12_Quote.l0 : Nat → ByteArray → ByteArray → Int → Option (ByteArray)
 | 0, _, _, _ => none
 | k + 1, x0, x3, x4 => if x4 < (x0.size : Int) then (if 0 ≤ x4 then (if x4 ≤ (wrap64 (x4 + 1)) then (if (wrap64 (x4 + 1)) ≤ (x0.size : Int) then (if (bt x0 x4) = 34 then (bulletinref12_Quote.j1 k x0 x3 x4 (x0.extract (x4 : Int).toNat ((wrap64 (x4 + 1)) : Int).toNat) true) else (bulletinref12_Quote.j1 k x0 x3 x4 (x0.extract (x4 : Int).toNat ((wrap64 (x4 + 1)) : Int).toNat) ((bt x0 x4) == 92))) else (none)) else (none)) else (none)) else (if 1 + x3.size ≤ 9223372036854775807 then (if ((⟨#[34]⟩ : ByteArray) ++ x3).size + 1 ≤ 9223372036854775807 then (some (((⟨#[34]⟩ : ByteArray) ++ x3) ++ (⟨#[34]⟩ : ByteArray))) else (none)) else (none))
def bulletinref12_Quote.j1 : Nat → ByteArray → ByteArray → Int → ByteArray → Bool → Option (ByteArray)
 | 0, _, _, _, _, _ => none
 | k + 1, x0, x3, x4, x5, x26 => if x26 = true then (if 1 + x5.size ≤ 9223372036854775807 then (if 0 ≤ x4 then (if x4 < (x0.size : Int) then ((bulletinref12_Text.f (bt x0 x4)).bind fun t310 => (if t310 = true then (if x3.size + ((⟨#[92]⟩ : ByteArray) ++ x5).size ≤ 9223372036854775807 then (bulletinref12_Quote.l0 k x0 (x3 ++ ((⟨#[92]⟩ : ByteArray) ++ x5)) (wrap64 (x4 + 1))) else (none)) else (if x3.size + 1 ≤ 9223372036854775807 then (bulletinref12_Quote.l0 k x0 (x3 ++ (⟨#[32]⟩ : ByteArray)) (wrap64 (x4 + 1))) else (none)))) else (none)) else (none)) else (none)) else (if 0 ≤ x4 then (if x4 < (x0.size : Int) then ((bulletinref12_Text.f (bt x0 x4)).bind fun t311 => (if t311 = true then (if x3.size + x5.size ≤ 9223372036854775807 then (bulletinref12_Quote.l0 k x0 (x3 ++ x5) (wrap64 (x4 + 1))) else (none)) else (if x3.size + 1 ≤ 9223372036854775807 then (bulletinref12_Quote.l0 k x0 (x3 ++ (⟨#[32]⟩ : ByteArray)) (wrap64 (x4 + 1))) else (none)))) else (none)) else (none))
end
end Go.Proofs.YtcndmhpeolbepaaGreatDoor.Fn
namespace Go.Proofs.YtcndmhpeolbepaaGreatDoor.Fn
attribute [local go_sem] max2_int min2_int max_two min_two max_three min_three max_four min_four
def stringslite_HasSuffix.f (a0 : ByteArray) (a1 : ByteArray) : Option (Bool) := if (a0.size : Int) ≥ (a1.size : Int) then (if 0 ≤ (wrap64 ((a0.size : Int) - (a1.size : Int))) then (if (wrap64 ((a0.size : Int) - (a1.size : Int))) ≤ (a0.size : Int) then (some ((a0.extract ((wrap64 ((a0.size : Int) - (a1.size : Int))) : Int).toNat a0.size).toList == a1.toList)) else (none)) else (none)) else (some false)
set_option maxRecDepth 100000 in
theorem stringslite_HasSuffix.calls (a0 : ByteArray) (a1 : ByteArray) (r : Bool) (w : World) (h : stringslite_HasSuffix.f a0 a1 = some r) :
  Calls Tryz.prog 152 #[.string a0, .string a1] w fun e w' => e = .returned (.bool r) ∧ Drawn0 w w' := by
 have H : (if (a0.size : Int) ≥ (a1.size : Int) then (if 0 ≤ (wrap64 ((a0.size : Int) - (a1.size : Int))) then (if (wrap64 ((a0.size : Int) - (a1.size : Int))) ≤ (a0.size : Int) then (some ((a0.extract ((wrap64 ((a0.size : Int) - (a1.size : Int))) : Int).toNat a0.size).toList == a1.toList)) else (none)) else (none)) else (some false)) = some r := h; clear h
 by_cases c3 : (a0.size : Int) ≥ (a1.size : Int)
 ·rw [if_pos c3] at H; have c3b0 : decide ((a1.size : Int) ≤ (a0.size : Int)) = true := decide_eq_true c3; have c3b1 : decide (a1.size ≤ a0.size) = true := decide_eq_true (Int.ofNat_le.mp c3); clear c3; obtain ⟨ji4, hji4⟩ : ∃ j_ : Int, (wrap64 ((a0.size : Int) - (a1.size : Int))) = j_ := ⟨_, rfl⟩
  replace H : (if 0 ≤ (ji4) then (if (ji4) ≤ (a0.size : Int) then (some ((a0.extract ((ji4) : Int).toNat a0.size).toList == a1.toList)) else (none)) else (none)) = some r := by first | (rw [hji4] at H; exact H) | (simp only [hji4] at H ⊢; exact H)
  have hji4w : (IntKind.i64.wrap ((a0.size : Int) - (a1.size : Int))) = ji4 := (i64_w _).trans hji4
  by_cases c5 : 0 ≤ (ji4)
  ·rw [if_pos c5] at H; have c5b0 := eq_true c5; have c5b1 := decide_eq_true c5; clear c5
   by_cases c6 : (ji4) ≤ (a0.size : Int)
   ·rw [if_pos c6] at H; have c6b0 := eq_true c6; have c6b1 := decide_eq_true c6; clear c6; obtain rfl := Option.some.inj H
    go_enter Tryz.func152, Tryz.ntmps152
    go_wp2
    go_ret
    exact ⟨by first | rfl | (simp; done) | (simp only [← hji4] <;> (first | rfl | simp)) | (simp [*]; done) | (simp [nil_ne]; done) | (simp [u8_w, i64w_]; done) | (simp [size_lit]; done) | (simp; unfold wrap64; omega), d0⟩
   rw [if_neg c6] at H; exact absurd H (by simp)
  rw [if_neg c5] at H; exact absurd H (by simp)
 rw [if_neg c3] at H; have c3b0 : decide ((a1.size : Int) ≤ (a0.size : Int)) = false := decide_eq_false c3; have c3b1 : decide (a1.size ≤ a0.size) = false := decide_eq_false (fun h => c3 (Int.ofNat_le.mpr h)); clear c3; obtain rfl := Option.some.inj H
 go_enter Tryz.func152, Tryz.ntmps152
 go_wp2
 go_ret
 exact ⟨cl, d0⟩
def strings_HasSuffix.f (a0 : ByteArray) (a1 : ByteArray) : Option (Bool) := (stringslite_HasSuffix.f a0 a1).bind fun t552 => (some t552)
set_option maxRecDepth 100000 in
theorem strings_HasSuffix.calls (a0 : ByteArray) (a1 : ByteArray) (r : Bool) (w : World) (h : strings_HasSuffix.f a0 a1 = some r) :
  Calls Tryz.prog 126 #[.string a0, .string a1] w fun e w' => e = .returned (.bool r) ∧ Drawn0 w w' := by
 have H : ((stringslite_HasSuffix.f a0 a1).bind fun t552 => (some t552)) = some r := h; clear h; replace H := Option.bind_eq_some_iff.mp H; obtain ⟨t552, A30, H⟩ := H; have A3 := Aside0.mk A30; clear A30; obtain rfl := Option.some.inj H
 go_enter Tryz.func126, Tryz.ntmps126
 go_wp2_with (first | ((with_reducible refine gate_callee (f := 152) rfl ?_); refine goesL_ (some 7) rfl rfl Tryz.func152 (by kernel_rfl) rfl #[.string a0, .string a1] rfl am ?_; (with_reducible refine (stringslite_HasSuffix.calls a0 a1 t552 _ A3.out).mono ?_); rintro e w' ⟨rfl, ⟨nd, rfl⟩⟩; refine ⟨_, rfl, ?_⟩))
 go_ret
 exact ⟨cl, d0⟩
def rights_ID.f (a0 : ByteArray) (a1 : ByteArray) : Option (ByteArray) := if a0.size + 1 ≤ 9223372036854775807 then (if (a0 ++ (⟨#[46]⟩ : ByteArray)).size + a1.size ≤ 9223372036854775807 then (some ((a0 ++ (⟨#[46]⟩ : ByteArray)) ++ a1)) else (none)) else (none)
set_option maxRecDepth 100000 in
theorem rights_ID.calls (a0 : ByteArray) (a1 : ByteArray) (r : ByteArray) (w : World) (h : rights_ID.f a0 a1 = some r) :
  Calls Tryz.prog 21 #[.string a0, .string a1] w fun e w' => e = .returned (.string r) ∧ Drawn0 w w' := by
 have H : (if a0.size + 1 ≤ 9223372036854775807 then (if (a0 ++ (⟨#[46]⟩ : ByteArray)).size + a1.size ≤ 9223372036854775807 then (some ((a0 ++ (⟨#[46]⟩ : ByteArray)) ++ a1)) else (none)) else (none)) = some r := h; clear h
 by_cases c3 : a0.size + 1 ≤ 9223372036854775807
 ·rw [if_pos c3] at H; have c3b0 := eq_true c3; have c3b1 := decide_eq_true c3
  try have c3b2 : (9223372036854775807 < a0.size + 1) = False := eq_false (Nat.not_lt.2 c3)
  by_cases c4 : (a0 ++ (⟨#[46]⟩ : ByteArray)).size + a1.size ≤ 9223372036854775807
  ·rw [if_pos c4] at H; have c4b0 := eq_true c4; have c4b1 := decide_eq_true c4
   try have c4b2 : (9223372036854775807 < (a0 ++ (⟨#[46]⟩ : ByteArray)).size + a1.size) = False := eq_false (Nat.not_lt.2 c4)
   try (have c4b3 := c4; simp only [ByteArray.size_append, size_lit, ByteArray.size_extract, List.size_toArray, List.length_cons, List.length_nil, Nat.zero_add, Nat.reduceAdd] at c4b3; have c4b4 := eq_false (Nat.not_lt.2 c4b3))
   obtain rfl := Option.some.inj H
   go_enter Tryz.func21, Tryz.ntmps21
   go_wp2
   go_ret
   exact ⟨cl, d0⟩
  rw [if_neg c4] at H; exact absurd H (by simp)
 rw [if_neg c3] at H; exact absurd H (by simp)
def glyph_blank.f (a0 : Int) : Option (Bool) := if a0 = 32 then (some true) else (if a0 = 9 then (some true) else (if a0 = 13 then (some true) else (some (a0 == 10))))
set_option maxRecDepth 100000 in
theorem glyph_blank.calls (a0 : Int) (r : Bool) (w : World) (h : glyph_blank.f a0 = some r) :
  Calls Tryz.prog 55 #[.int .i32 a0] w fun e w' => e = .returned (.bool r) ∧ Drawn0 w w' := by
 have H : (if a0 = 32 then (some true) else (if a0 = 9 then (some true) else (if a0 = 13 then (some true) else (some (a0 == 10))))) = some r := h; clear h
 by_cases c2 : a0 = 32
 ·rw [if_pos c2] at H; have c2b0 := beq_iff_eq.mpr c2; have c2b1 := bne_eq_false_iff_eq.mpr c2; clear c2; obtain rfl := Option.some.inj H
  go_enter Tryz.func55, Tryz.ntmps55
  go_wp2
  go_ret
  exact ⟨cl, d0⟩
 rw [if_neg c2] at H; have c2b0 := beq_eq_false_iff_ne.mpr c2; have c2b1 := bne_iff_ne.mpr c2
 by_cases c3 : a0 = 9
 ·rw [if_pos c3] at H; have c3b0 := beq_iff_eq.mpr c3; have c3b1 := bne_eq_false_iff_eq.mpr c3; clear c3; obtain rfl := Option.some.inj H
  go_enter Tryz.func55, Tryz.ntmps55
  go_wp2
  go_ret
  exact ⟨cl, d0⟩
 rw [if_neg c3] at H; have c3b0 := beq_eq_false_iff_ne.mpr c3; have c3b1 := bne_iff_ne.mpr c3
 by_cases c4 : a0 = 13
 ·rw [if_pos c4] at H; have c4b0 := beq_iff_eq.mpr c4; have c4b1 := bne_eq_false_iff_eq.mpr c4; clear c4; obtain rfl := Option.some.inj H
  go_enter Tryz.func55, Tryz.ntmps55
  go_wp2
  go_ret
  exact ⟨cl, d0⟩
 rw [if_neg c4] at H; have c4b0 := beq_eq_false_iff_ne.mpr c4; have c4b1 := bne_iff_ne.mpr c4; obtain rfl := Option.some.inj H
 go_enter Tryz.func55, Tryz.ntmps55
 go_wp2
 go_ret
 exact ⟨cl, d0⟩
end Go.Proofs.YtcndmhpeolbepaaGreatDoor.Fn
namespace Go.Proofs.YtcndmhpeolbepaaGreatDoor.Fn
theorem hid {p : Prop} (h : p) : Hid p := h
theorem strings_at {w : World} {A : Option Addr} {n : Nat} {l : List ByteArray} (h : Kd.C Kd.string w A n l) (hp : 0 < n) :
  ∃ bk o, A = some ⟨bk, o, none⟩ ∧ bk < w.heap.size ∧ ∀ (j : Nat) x, l[j]? = some x → w.cell? ⟨bk, o + j, none⟩ = some (.string x) := by
 have hn : l.length = n := h.1
 obtain ⟨ad, rfl, hc⟩ := h.2.2 hp
 have hc' : ∀ (j : Nat) x, l[j]? = some x → w.cell? (ad.add j) = some (.string x) := by
  intro j x hx
  obtain ⟨c, _, hk, hu⟩ := hc j x hx
  have hk' : c = [.string x] := hk
  subst hk'
  have := hu 0 (.string x) rfl
  simpa [Kd.string, Kd.scalar] using this
 obtain ⟨b, off, spot⟩ := ad
 have h0 : ∃ x, l[0]? = some x := ⟨l[0]'(by omega), by simp⟩
 obtain ⟨x0, hx0⟩ := h0
 have e0 := hc' 0 x0 hx0
 have hspot : spot = none := by simpa [Addr.add] using World.cell?_spot e0
 subst hspot
 refine ⟨b, off, rfl, ?_, fun j x hx => ?_⟩
 ·exact World.block_lt_of_cell? w ⟨b, off, none⟩ (by simpa [Addr.add] using e0)
 rw [← Go.WideShapes.add_plain]
 exact hc' j x hx
/-! The builder's methods, over a builder that the call itself has made. -/
theorem infoByte : (Tryz.prog.info? 5).map (fun i => (i.zero, i.size, i.bytes)) = some (some (.int .u8 0), 1, 1) := by kernel_rfl
theorem sizeBuilder : (Tryz.prog.info? 85).map (·.size) = some 2 := by kernel_rfl
theorem liesBuilder : liesAt Tryz.prog Tryz.prog.depth 85 (2 / Tryz.prog.cellsOf 85) 0 85 1 = true := by kernel_rfl
def bdAt (B b : Nat) (bs : List Value) (w : World) : Prop := Lib.BuilderAtF 85 5 B b (.pointer (some ⟨b, 0, none⟩)) bs w
def isBd (B b : Nat) (bs : List Value) (w : World) : Prop := Lib.IsBuilderF 85 5 B b bs w
def kept (b : Nat) (w w' : World) : Prop := Lib.OthersKept 5 (some b) w w'
theorem bdAt.is {B b : Nat} {bs : List Value} {w : World} (h : bdAt B b bs w) : isBd B b bs w := .inr h
set_option maxRecDepth 100000 in
theorem bd_check (B b : Nat) (bs : List Value) (w : World) (h : isBd B b bs w) :
  Calls Tryz.prog 87 #[.pointer (some ⟨b, 0, none⟩)] w fun e w' => e = .returned (.tuple #[]) ∧ bdAt B b bs w' ∧ Below B w w' ∧ kept b w w' := by
 obtain ⟨j, hj, hjs⟩ := Option.map_eq_some_iff.1 sizeBuilder
 rcases h with h | h
 ·have c0 := h.cell0
  have sh := h.shape
  have f0 := h.frozen0
  go_enter Tryz.func87, Tryz.ntmps87
  go_wp2
  rw [Lib.run_to_unsafe w ⟨b, 0, none⟩ Tryz.underlying82 Tryz.underlying154 hj (by rw [hjs]; decide) sh (Nat.zero_lt_succ 1)]
  simp only [Result.andThen]
  rw [Oper.upon_value]
  go_wp2
  rw [run_callFunc_extern Tryz.func125 (by kernel_rfl) (by kernel_rfl) (by kernel_rfl) (e := Extern.AbiNoEscape.same) (by kernel_rfl)]
  rw [Lib.run_noEscape]
  simp only [Result.andThen]
  rw [Oper.upon_value]
  go_wp2
  rw [Lib.run_from_unsafe w ⟨b, 0, none⟩ Tryz.underlying154 Tryz.underlying82 hj sh liesBuilder]
  simp only [Result.andThen]
  rw [Oper.upon_value]
  go_wp2
  go_end0
  exact ⟨rfl, h.used _, (Below.refl B w).setCell (p := ⟨b, 0, none⟩) h.1 _, (Lib.OthersKept.refl _ _ w).setCell ⟨b, 0, none⟩ rfl _⟩
 have c0 := h.cell0
 go_enter Tryz.func87, Tryz.ntmps87
 go_wp2
 rw [Lib.run_neq_ptr_same w _ Tryz.underlying82 hj]
 go_wp2
 go_end0
 exact ⟨rfl, h, Below.refl B _, Lib.OthersKept.refl _ _ _⟩
set_option maxHeartbeats 2000000 in
set_option maxRecDepth 100000 in
theorem bd_byte (B b : Nat) (bs : List Value) (c : Int) (w : World) (h : isBd B b bs w) (hlen : bs.length + 1 ≤ 140737488355328) (hBw : B ≤ w.heap.size) :
  Calls Tryz.prog 48 #[.pointer (some ⟨b, 0, none⟩), .int .u8 c] w fun e w' => e = .returned .nilIface ∧ bdAt B b (bs ++ [.int .u8 c]) w' ∧ Below B w w' ∧ kept b w w' := by
 obtain ⟨i0, hi, hz0, hz1, hz2⟩ := info_parts infoByte
 go_enter Tryz.func48, Tryz.ntmps48
 go_wp2_with (go_at_call 87; refine (bd_check B b bs _ h).mono ?_)
 rintro e w1 ⟨rfl, h1, hb1, hk1⟩
 obtain ⟨hB, v, hbk, hown, hne⟩ := h1
 have c0 : w1.cell? ⟨b, 0, none⟩ = some (.pointer (some ⟨b, 0, none⟩)) := by rw [Lib.cell_of_heap hbk]; rfl
 have c1 : w1.cell? ⟨b, 1, none⟩ = some v := by rw [Lib.cell_of_heap hbk]; rfl
 go_wp2_with (at_builtin; refine wpList_append_ownF _ rfl _ _ 83 rfl B 5 i0 (.int .u8 0) 1 1 Tryz.underlying83 hi hz0 hz1 hz2 rfl (by decide) _ _ _ rfl (hown.alloc _) ⟨w1.heap.size, 0, none⟩ 1 1 [.int .u8 c] rfl rfl ?c1 ?c2 ?c3 ?c4 ?c5 ?_)
 case c1 =>
  intro j u hj
  match j, hj with
  | 0, hj => simp at hj; subst hj; simp [Addr.add]
 case c2 => intro u hu; simp at hu; subst hu; rfl
 case c3 => unfold maxLen; omega
 case c4 => omega
 case c5 => have := hb1.size; simp; omega
 intro v' w2 hown' hgrow _
 have hlt : b < w1.heap.size := by
  rcases Nat.lt_or_ge b w1.heap.size with h' | h'
  ·exact h'
  simp [Array.getElem?_eq_none h'] at hbk
 have hb2 : w2.heap[b]? = some (.cells #[.pointer (some ⟨b, 0, none⟩), v] 85 (0, 0)) := by
  rw [hgrow.block b (by simp; omega) (fun e => hne e.symm), Lib.alloc_old w1 _ b hlt]
  exact hbk
 have d0 : w2.cell? ⟨b, 0, none⟩ = some (.pointer (some ⟨b, 0, none⟩)) := by rw [Lib.cell_of_heap hb2]; rfl
 have d1 : w2.cell? ⟨b, 1, none⟩ = some v := by rw [Lib.cell_of_heap hb2]; rfl
 have f1 : w2.frozen? ⟨b, 1, none⟩ = false := Lib.frozen_of_heap hb2 1
 obtain ⟨g, cap, rfl⟩ : ∃ g cap, v' = .slice (some ⟨g, 0, none⟩) (bs.length + 1) cap := by
  rcases hown'.2 with ⟨_, h0⟩ | ⟨g, cap, cur, fz, hv, _⟩
  ·omega
  exact ⟨g, cap, hv⟩
 go_wp2
 go_ret
 refine ⟨rfl, ?_, ?_, ((hk1.alloc _).grown hgrow (Lib.ownsRowF_kind (hown.alloc _))).setCell ⟨b, 1, none⟩ rfl _⟩
 ·exact Lib.BuilderAtF.put (T := 85) (e := 5) hB hb2 (bs' := bs ++ [.int .u8 c]) (by simpa using hown') (by decide)
 exact ((hb1.alloc (by have := hb1.size; omega) _).grown hgrow (by have := hb1.size; simp; omega) (fun k hk => (hown.lt k hk).1)).setCell (p := ⟨b, 1, none⟩) hB _
set_option maxHeartbeats 2000000 in
set_option maxRecDepth 100000 in
theorem bd_string (B b : Nat) (bs : List Value) (s : ByteArray) (w : World) (h : isBd B b bs w) (hlen : bs.length + s.size ≤ 140737488355328) (hBw : B ≤ w.heap.size) :
  Calls Tryz.prog 96 #[.pointer (some ⟨b, 0, none⟩), .string s] w fun e w' => e = .returned (.tuple #[.int .i64 s.size, .nilIface]) ∧ bdAt B b (bs ++ Lib.strCells s) w' ∧ Below B w w' ∧ kept b w w' := by
 obtain ⟨i0, hi, hz0, hz1, hz2⟩ := info_parts infoByte
 go_enter Tryz.func96, Tryz.ntmps96
 go_wp2_with (go_at_call 87; refine (bd_check B b bs _ h).mono ?_)
 rintro e w1 ⟨rfl, h1, hb1, hk1⟩
 obtain ⟨hB, v, hbk, hown, hne⟩ := h1
 have c0 : w1.cell? ⟨b, 0, none⟩ = some (.pointer (some ⟨b, 0, none⟩)) := by rw [Lib.cell_of_heap hbk]; rfl
 have c1 : w1.cell? ⟨b, 1, none⟩ = some v := by rw [Lib.cell_of_heap hbk]; rfl
 go_wp2_with (at_builtin; refine Lib.wpList_append_own_stringF _ rfl _ _ 83 9 rfl B 5 i0 Tryz.underlying83 Tryz.underlying9 hi hz0 hz1 hz2 _ _ _ rfl hown s rfl ?c3 ?c4 ?c5 ?_)
 case c3 => unfold maxLen; omega
 case c4 => omega
 case c5 => have := hb1.size; omega
 intro v' w2 hown' hgrow _
 have hlt : b < w1.heap.size := by
  rcases Nat.lt_or_ge b w1.heap.size with h' | h'
  ·exact h'
  simp [Array.getElem?_eq_none h'] at hbk
 have hb2 : w2.heap[b]? = some (.cells #[.pointer (some ⟨b, 0, none⟩), v] 85 (0, 0)) := by
  rw [hgrow.block b hlt (fun e => hne e.symm)]
  exact hbk
 have d0 : w2.cell? ⟨b, 0, none⟩ = some (.pointer (some ⟨b, 0, none⟩)) := by rw [Lib.cell_of_heap hb2]; rfl
 have d1 : w2.cell? ⟨b, 1, none⟩ = some v := by rw [Lib.cell_of_heap hb2]; rfl
 have f1 : w2.frozen? ⟨b, 1, none⟩ = false := Lib.frozen_of_heap hb2 1
 obtain ⟨ao, n', cap, rfl⟩ : ∃ ao n' cap, v' = .slice ao n' cap := by
  rcases hown'.2 with ⟨hv, _⟩ | ⟨g, cap, cur, fz, hv, _⟩
  ·exact ⟨_, _, _, hv⟩
  exact ⟨_, _, _, hv⟩
 go_wp2
 go_ret2
 refine ⟨rfl, ?_, ?_, (hk1.grown hgrow (Lib.ownsRowF_kind hown)).setCell ⟨b, 1, none⟩ rfl _⟩
 ·exact Lib.BuilderAtF.put (T := 85) (e := 5) hB hb2 (bs' := bs ++ Lib.strCells s) (by simpa [Lib.strCells_length] using hown') (by decide)
 exact (hb1.grown hgrow (by have := hb1.size; omega) (fun k hk => (hown.lt k hk).1)).setCell (p := ⟨b, 1, none⟩) hB _
/-! Bits of small numbers. -/
theorem i64_small (n : Int) (h0 : 0 ≤ n) (h1 : n < 2 ^ 62) : IntKind.i64.wrap n = n := by
 rw [i64w_]
 unfold wrap64
 have e : (2 : Int) ^ 62 = 4611686018427387904 := by decide
 omega
theorem or_i64 (i : Nat) (x y : Int) (hx0 : 0 ≤ x) (hx : x % 2 ^ i = 0) (hx1 : x < 2 ^ 62) (hy0 : 0 ≤ y) (hy : y < 2 ^ i) (hy1 : y < 2 ^ 62) : bits .or .i64 x y = x + y :=
 bits_join .i64 62 (by decide) i64_small i x y hx0 hx hx1 hy0 hy hy1
theorem and_i64 (i : Nat) (x : Int) (hi : i ≤ 61) (hx0 : 0 ≤ x) (hx1 : x < 2 ^ 62) : bits .and .i64 x (2 ^ i - 1) = x % 2 ^ i := by
 obtain ⟨a, rfl⟩ := Int.eq_ofNat_of_zero_le hx0
 have ha : a < 2 ^ 62 := by exact_mod_cast hx1
 have h2 : 2 ^ i < 2 ^ 62 := Nat.pow_lt_pow_right (by decide) (by omega)
 have h3 : 0 < 2 ^ i := Nat.two_pow_pos i
 have e : ((2 : Int) ^ i - 1) = ((2 ^ i - 1 : Nat) : Int) := by
  rw [Int.ofNat_sub (by omega)]
  simp
 rw [e, (bits_nat .i64 62 (by decide) i64_small a (2 ^ i - 1) ha (by omega)).1, Nat.and_two_pow_sub_one_eq_mod]
 simp
/-! An open region whose operations read, and call what only makes what is new: one walk in the order of the text. The class: the worlds that grew out of the one that the region begins in. -/
def Grown (W w : World) : Prop := Below W.heap.size W w
theorem grown_step {W w w' : World} (h : Grown W w) (hb : Below w.heap.size w w') : Grown W w' := Below.trans h (hb.mono (Below.size h))
theorem grown_blk {W w : World} {g : Nat} {o : Obj} (h : Grown W w) (hg : W.heap[g]? = some o) : w.heap[g]? = some o := (Below.block h _ (blk_lt hg)).trans hg
theorem grown_below {W w V : World} {n : Nat} (h : Grown W w) (hb : Below n V W) (hn : n ≤ W.heap.size) : Below n V w := hb.trans (Below.mono h hn)
theorem wp_quiet_below {P : Program} {id : Nat} {Q : Exit → Act → World → Prop} {a : Act} {w : World} {l : List Oper} (hm : P.follows .mixedOrders = true) (hB : Region.lexB .any l.toArray = true)
  (h : wpQuiet P l.toArray (Grown w) (fun a' => ∀ w', Grown w w' → Q .normal a' w') l a) : (Code.region id l.toArray true).wp P Q a w :=
 wp_region_quiet (C := Grown w) hm hB (pw_below_drewN (Below.refl w.heap.size w) 1) (by simpa using h)
theorem st_ {w W W' : World} (h : Aside0 (Below w.heap.size w W)) (hb : Below W.heap.size W W') : Aside0 (Below w.heap.size w W') := ⟨below_step h.out hb⟩
theorem sb_ {W W' : World} {g : Nat} {o : Obj} (h : Aside0 (W.heap[g]? = some o)) (hb : Below W.heap.size W W') : Aside0 (W'.heap[g]? = some o) := ⟨blk_below h.out hb⟩
theorem sg_ {W W' : World} {g : Nat} {o : Obj} (h : Aside0 (W.heap[g]? = some o)) (hb : Grown W W') : Aside0 (W'.heap[g]? = some o) := ⟨grown_blk hb h.out⟩
theorem sgb_ {w W W' : World} (h : Aside0 (Below w.heap.size w W)) (hb : Grown W W') : Aside0 (Below w.heap.size w W') := ⟨grown_below hb h.out h.out.size⟩
theorem cells2 {w : World} {g t : Nat} {v0 v1 : Value} (h : Aside0 (w.heap[g]? = some (.cells #[v0, v1] t (0, 0)))) : w.cell? ⟨g, 0, none⟩ = some v0 ∧ w.cell? ⟨g, 1, none⟩ = some v1 := ⟨(blk_cell h.out 0).trans rfl, (blk_cell h.out 1).trans rfl⟩
theorem cells3 {w : World} {g t : Nat} {v0 v1 v2 : Value} (h : Aside0 (w.heap[g]? = some (.cells #[v0, v1, v2] t (0, 0)))) : w.cell? ⟨g, 0, none⟩ = some v0 ∧ w.cell? ⟨g, 1, none⟩ = some v1 ∧ w.cell? ⟨g, 2, none⟩ = some v2 := ⟨(blk_cell h.out 0).trans rfl, (blk_cell h.out 1).trans rfl, (blk_cell h.out 2).trans rfl⟩
theorem cells9 {w : World} {g t : Nat} {v0 v1 v2 v3 v4 v5 v6 v7 v8 : Value} (h : Aside0 (w.heap[g]? = some (.cells #[v0, v1, v2, v3, v4, v5, v6, v7, v8] t (0, 0)))) : w.cell? ⟨g, 0, none⟩ = some v0 ∧ w.cell? ⟨g, 1, none⟩ = some v1 ∧ w.cell? ⟨g, 2, none⟩ = some v2 ∧ w.cell? ⟨g, 3, none⟩ = some v3 ∧ w.cell? ⟨g, 4, none⟩ = some v4 ∧ w.cell? ⟨g, 5, none⟩ = some v5 ∧ w.cell? ⟨g, 6, none⟩ = some v6 ∧ w.cell? ⟨g, 7, none⟩ = some v7 ∧ w.cell? ⟨g, 8, none⟩ = some v8 := ⟨(blk_cell h.out 0).trans rfl, (blk_cell h.out 1).trans rfl, (blk_cell h.out 2).trans rfl, (blk_cell h.out 3).trans rfl, (blk_cell h.out 4).trans rfl, (blk_cell h.out 5).trans rfl, (blk_cell h.out 6).trans rfl, (blk_cell h.out 7).trans rfl, (blk_cell h.out 8).trans rfl⟩
theorem far3_ {w : World} {g b : Nat} {v0 v1 v2 : Value} {t : Nat} {cs : Array Value} (h : Aside0 (w.heap[b]? = some (.cells cs t (0, 0)))) (hn : Aside0 (b ≠ g)) : Aside0 ((((w.setCell ⟨g, 0, none⟩ v0).setCell ⟨g, 1, none⟩ v1).setCell ⟨g, 2, none⟩ v2).heap[b]? = some (.cells cs t (0, 0))) := ⟨by refine blk_far (p := ⟨g, 2, none⟩) ?_ hn.out _; refine blk_far (p := ⟨g, 1, none⟩) ?_ hn.out _; refine blk_far (p := ⟨g, 0, none⟩) ?_ hn.out _; exact h.out⟩
theorem bel3_ {w W : World} {g n : Nat} {v0 v1 v2 : Value} (h : Aside0 (Below n W w)) (hg : Aside0 (n ≤ g)) : Aside0 (Below n W (((w.setCell ⟨g, 0, none⟩ v0).setCell ⟨g, 1, none⟩ v1).setCell ⟨g, 2, none⟩ v2)) := ⟨(((h.out).setCell (p := ⟨g, 0, none⟩) hg.out _).setCell (p := ⟨g, 1, none⟩) hg.out _).setCell (p := ⟨g, 2, none⟩) hg.out _⟩
theorem put3_ {w : World} {g t : Nat} {v0 v1 v2 u0 u1 u2 : Value} (h : Aside0 (w.heap[g]? = some (.cells #[u0, u1, u2] t (0, 0)))) : Aside0 ((((w.setCell ⟨g, 0, none⟩ v0).setCell ⟨g, 1, none⟩ v1).setCell ⟨g, 2, none⟩ v2).heap[g]? = some (.cells #[v0, v1, v2] t (0, 0))) := ⟨by refine blk_put (cs := #[v0, v1, u2]) ?_ 2 _ rfl; refine blk_put (cs := #[v0, u1, u2]) ?_ 1 _ rfl; refine blk_put (cs := #[u0, u1, u2]) ?_ 0 _ rfl; exact h.out⟩
end Go.Proofs.YtcndmhpeolbepaaGreatDoor.Fn
namespace Go.Proofs.YtcndmhpeolbepaaGreatDoor.Pl
/-! What the functions that are not printed compute: plain Lean. -/
abbrev Bytes := List UInt8
def str (l : Bytes) : ByteArray := ⟨l.toArray⟩
theorem str_data (l : Bytes) : (str l).data.toList = l := by simp [str]
theorem str_toList (s : ByteArray) : str s.data.toList = s := by cases s; simp [str]
theorem str_size (l : Bytes) : (str l).size = l.length := by
 show l.toArray.size = _
 simp
theorem data_length (s : ByteArray) : s.data.toList.length = s.size := by
 show s.data.toList.length = s.data.size
 simp
def foldB (c : UInt8) : UInt8 := if 65 ≤ c.toNat ∧ c.toNat ≤ 90 then c + 32 else c
def fold (l : Bytes) : Bytes := l.map foldB
theorem fold_length (l : Bytes) : (fold l).length = l.length := by simp [fold]
theorem take_snoc (s : ByteArray) (k : Nat) (h : k < s.size) : s.data.toList.take (k + 1) = s.data.toList.take k ++ [s[k]] := by
 rw [List.take_succ_eq_append_getElem (by rw [data_length]; exact h)]
 rfl
theorem fold_snoc (s : ByteArray) (k : Nat) (h : k < s.size) : fold (s.data.toList.take (k + 1)) = fold (s.data.toList.take k) ++ [foldB s[k]] := by
 rw [take_snoc s k h]
 simp [fold]
theorem foldB_up (c : UInt8) (h : 65 ≤ (c.toNat : Int) ∧ (c.toNat : Int) ≤ 90) : (c.toNat : Int) + 32 = (foldB c).toNat := by
 unfold foldB
 rw [if_pos (by omega), UInt8.toNat_add]
 have : (32 : UInt8).toNat = 32 := rfl
 omega
theorem foldB_no (c : UInt8) (h : ¬ (65 ≤ (c.toNat : Int) ∧ (c.toNat : Int) ≤ 90)) : (c.toNat : Int) = (foldB c).toNat := by
 unfold foldB
 rw [if_neg (by omega)]
def width (s : ByteArray) (i : Nat) : Nat := (Utf8.decode s i).2
def sign (s : ByteArray) (i : Nat) : Nat := (Utf8.decode s i).1
theorem width_pos (s : ByteArray) (i : Nat) (h : i < s.size) : 1 ≤ width s i := by
 unfold width
 by_cases ha : (s[i]'h).toNat < 128
 ·rw [decode_ascii s i h ha]
  exact Nat.le_refl _
 exact (decode_high s i h (by omega)).2
theorem width_end (s : ByteArray) (i : Nat) (h : i < s.size) : i + (Utf8.decode s i).2 ≤ s.size := by
 rw [Lib.decode_at]
 unfold Lib.decodeN
 repeat' split
 all_goals (simp only []; omega)
def control (r : Nat) : Bool := decide (r < 32) || (decide (127 ≤ r) && decide (r ≤ 159))
def cleanR (r : Nat) : Bytes := if control r then [32] else Lib.encodeRune r
def cleanFrom (s : ByteArray) : Nat → Nat → Bytes
 | 0, _ => []
 | n + 1, i => if i < s.size then cleanR (sign s i) ++ cleanFrom s n (i + width s i) else []
def clean (s : ByteArray) : Bytes := cleanFrom s s.size 0
theorem cleanFrom_end (s : ByteArray) (n i : Nat) (h : ¬ i < s.size) : cleanFrom s n i = [] := by
 cases n with
 | zero => rfl
 | succ n => simp [cleanFrom, h]
theorem extract_all (s : ByteArray) : s.extract 0 s.size = s := by
 apply ByteArray.ext
 apply Array.ext'
 simp
def blank (r : Nat) : Bool := r == 32 || (r == 9 || (r == 13 || r == 10))
def words (s : ByteArray) : List ByteArray := Lib.goFieldsP blank s
def join (l : List ByteArray) (sep : ByteArray) : ByteArray := str (Lib.join (l.map fun x => x.data.toList) sep.data.toList)
/-! Tools for the plain laws: byte texts as lists, rounds. -/
def bs (s : ByteArray) : Bytes := s.data.toList
theorem bs_str (l : Bytes) : bs (str l) = l := str_data l
theorem str_bs (s : ByteArray) : str (bs s) = s := str_toList s
theorem bs_length (s : ByteArray) : (bs s).length = s.size := data_length s
theorem toList_bs (s : ByteArray) : s.toList = bs s := ByteArray.toList_eq s
theorem toList_str (l : Bytes) : (str l).toList = l := by rw [toList_bs, bs_str]
theorem bs_inj {a b : ByteArray} (h : bs a = bs b) : a = b := by rw [← str_bs a, ← str_bs b, h]
theorem str_app (a b : Bytes) : str a ++ str b = str (a ++ b) := by
 apply bs_inj
 simp [bs, str]
theorem bs_app (a b : ByteArray) : bs (a ++ b) = bs a ++ bs b := by simp [bs]
theorem bs_extract (s : ByteArray) (i j : Nat) : bs (s.extract i j) = ((bs s).take j).drop i := by
 simp [bs, List.extract_eq_take_drop, List.drop_take]
theorem bt_nat (s : ByteArray) (i : Nat) (h : i < s.size) : bt s (i : Int) = (s[i].toNat : Int) := by
 have := bt_at s (i : Int) (by simpa using h)
 simpa using this.symm
theorem bt_bs (s : ByteArray) (i : Nat) (h : i < (bs s).length) : bt s (i : Int) = ((bs s)[i].toNat : Int) := by
 rw [bt_nat s i (by rw [bs_length] at h; exact h)]
 rfl
theorem bt_str (l : Bytes) (i : Nat) (h : i < l.length) : bt (str l) (i : Int) = (l[i].toNat : Int) := by
 rw [bt_bs (str l) i (by rw [bs_str]; exact h)]
 simp [bs_str]
theorem drop_cons {l : Bytes} {i : Nat} {c : UInt8} {r : Bytes} (h : l.drop i = c :: r) : i < l.length ∧ l[i]? = some c ∧ l.drop (i + 1) = r ∧ (l.take (i + 1)) = l.take i ++ [c] := by
 have hi : i < l.length := by
  rcases Nat.lt_or_ge i l.length with h' | h'
  ·exact h'
  rw [List.drop_of_length_le h'] at h; cases h
 have h1 : l[i]? = some c := by
  have := congrArg List.head? h
  rw [List.head?_drop] at this
  exact this
 refine ⟨hi, h1, ?_, ?_⟩
 ·rw [← List.drop_drop, h]; rfl
 rw [List.take_add_one, h1]; rfl
theorem drop_nil {l : Bytes} {i : Nat} (h : l.drop i = []) : l.length ≤ i := by
 have := congrArg List.length h
 simp at this
 omega
theorem bt_drop {s : ByteArray} {i : Nat} {c : UInt8} {r : Bytes} (h : (bs s).drop i = c :: r) : bt s (i : Int) = (c.toNat : Int) := by
 obtain ⟨h1, h2, _⟩ := drop_cons h
 rw [bt_bs s i h1]
 rw [List.getElem?_eq_getElem h1] at h2
 injection h2 with h2
 rw [h2]
theorem wrap_id {x : Int} (h0 : -9223372036854775808 ≤ x) (h1 : x ≤ 9223372036854775807) : wrap64 x = x := by
 unfold wrap64
 omega
theorem wrap_succ (i : Nat) (h : i ≤ 140737488355328) : wrap64 ((i : Int) + 1) = ((i + 1 : Nat) : Int) := by
 rw [wrap_id (by omega) (by omega)]
 omega
theorem extract_one {s : ByteArray} {i : Nat} {c : UInt8} {r : Bytes} (h : (bs s).drop i = c :: r) : s.extract i (i + 1) = str [c] := by
 apply bs_inj
 rw [bs_extract, bs_str, (drop_cons h).2.2.2, List.drop_append_of_le_length (by rw [List.length_take]; have := (drop_cons h).1; omega)]
 have := (drop_cons h).1
 simp [List.drop_eq_nil_of_le, Nat.min_eq_left (Nat.le_of_lt this)]
/-! Texts of good signs: what their signs are is read again. -/
def okR (r : Nat) : Prop := r < 55296 ∨ (57344 ≤ r ∧ r ≤ 1114111)
def er (r : Nat) : Bytes := Lib.encodeRune (r : Int)
def enc (rs : List Nat) : Bytes := rs.flatMap er
end Go.Proofs.YtcndmhpeolbepaaGreatDoor.Pl
set_option linter.unusedVariables false
namespace Go.Proofs.YtcndmhpeolbepaaGreatDoor.Pl
def plainR (r : Nat) : Bool := decide (32 ≤ r) && decide (r ≤ 126)
def plainFrom (s : ByteArray) : Nat → Nat → Bool
 | 0, _ => true
 | f + 1, pos => if pos < s.size then (if plainR (Utf8.decode s pos).1 = true then plainFrom s f (pos + (Utf8.decode s pos).2) else false) else true
def plain (s : ByteArray) : Bool := plainFrom s s.size 0
end Go.Proofs.YtcndmhpeolbepaaGreatDoor.Pl
namespace Go.Proofs.YtcndmhpeolbepaaGreatDoor.Fn
open Go.RowKit Go.Proofs.YtcndmhpeolbepaaGreatDoorW.PrintWords

def glyph_Plain.f (a0 : ByteArray) : Option Bool := if a0.size ≤ 140737488355328 then some (Pl.plain a0) else none
theorem glyph_plain_is (r : Nat) : glyph_plain.f (r : Int) = some (Pl.plainR r) := by
 unfold glyph_plain.f Pl.plainR
 by_cases h1 : (r : Int) ≥ 32
 ·rw [if_pos h1]
  simp [show 32 ≤ r by omega]
  omega
 rw [if_neg h1]
 simp [show ¬ 32 ≤ r by omega]

set_option maxHeartbeats 4000000 in
set_option maxRecDepth 100000 in
theorem glyph_Plain.calls (a0 : ByteArray) (r : Bool) (w : World) (h : glyph_Plain.f a0 = some r) :
  Calls Tryz.prog 64 #[.string a0] w fun e w' => e = .returned (.bool r) ∧ Below w.heap.size w w' := by
 unfold glyph_Plain.f at h
 by_cases hs : a0.size ≤ 140737488355328
 ·rw [if_pos hs] at h
  have HR := hid (Option.some.inj h)
  clear h
  go_enter Tryz.func64, Tryz.ntmps64
  go_wp2
  go_loopw [] (fun wr => ∃ (pos fuel : Nat), wr.heap[w.heap.size]? = some (.stringIter a0 pos) ∧ Below w.heap.size w wr ∧ Hid (Pl.plainFrom a0 fuel pos = r) ∧ a0.size ≤ pos + fuel) (fun wr => a0.size - wr.iterPos w.heap.size)
  case atStart =>
   refine ⟨0, a0.size, ?_, (Below.refl _ w).alloc (by simp) _, HR.out, by omega⟩
   have := World.iter_heap w a0 0
   simpa using this
  case round =>
   obtain ⟨pos, fuel, hit, hbw, hacc, hfu⟩ := hrel
   have hsz : w.heap.size < wr.heap.size := (Array.getElem?_eq_some_iff.1 hit).1
   by_cases hp : pos < a0.size
   ·have hnx : ∀ ty, (Instr.next (.pointer (some ⟨w.heap.size, 0, none⟩)) true ty).run Tryz.prog wr = _ := fun ty => Lib.run_next_any_at wr w.heap.size a0 pos ty hit hp
    have hwd : 1 ≤ (Utf8.decode a0 pos).2 := Pl.width_pos a0 pos hp
    have hit2 := Lib.iterAt_heap wr w.heap.size a0 pos (pos + (Utf8.decode a0 pos).2) hit
    have hbw2 := Lib.below_iterAt hbw (k := w.heap.size) (by omega) a0 (pos + (Utf8.decode a0 pos).2)
    obtain ⟨f, rfl⟩ : ∃ f, fuel = f + 1 := ⟨fuel - 1, by omega⟩
    have hct := glyph_plain_is (Utf8.decode a0 pos).1
    cases hc : Pl.plainR (Utf8.decode a0 pos).1 with
    | true =>
     have hstep : Hid (Pl.plainFrom a0 f (pos + (Utf8.decode a0 pos).2) = r) := by
      have := hacc.out
      rw [Pl.plainFrom, if_pos hp, if_pos hc] at this
      exact this
     rw [hc] at hct
     have HC := hid hct
     clear hct hc hacc
     go_wp2_with (first | (go_at_call 109; refine (glyph_plain.calls _ true _ HC.out).mono ?_; rintro e W0 ⟨rfl, ⟨⟨n0, rfl⟩⟩⟩))
     go_roundw
     case rel =>
      exact ⟨pos + (Utf8.decode a0 pos).2, f, hit2, pw_below_drewN hbw2 _, hstep, by omega⟩
     case measure =>
      have hit3 : ((wr.iterAt w.heap.size a0 (pos + (Utf8.decode a0 pos).2)).drewN n0).heap[w.heap.size]? = some (.stringIter a0 (pos + (Utf8.decode a0 pos).2)) := hit2
      simp only [World.iterPos, hit3, hit]
      omega
    | false =>
     have hstep := hacc.out
     rw [Pl.plainFrom, if_pos hp, if_neg (by rw [hc]; simp)] at hstep
     have HS := hid hstep
     rw [hc] at hct
     have HC := hid hct
     clear hct hc hacc hstep
     go_wp2_with (first | (go_at_call 109; refine (glyph_plain.calls _ false _ HC.out).mono ?_; rintro e W0 ⟨rfl, ⟨⟨n0, rfl⟩⟩⟩))
     go_ret
     exact ⟨by rw [← HS.out]; rfl, pw_below_drewN hbw2 _⟩
   have hnx : ∀ ty, (Instr.next (.pointer (some ⟨w.heap.size, 0, none⟩)) true ty).run Tryz.prog wr = _ := fun ty => Lib.run_next_end_at wr w.heap.size a0 pos ty hit hp
   have hend : Hid (r = true) := by
    have := hacc.out
    show _ = _
    cases fuel with
    | zero => rw [Pl.plainFrom] at this; exact this.symm
    | succ f => rw [Pl.plainFrom, if_neg hp] at this; exact this.symm
   clear hacc
   go_wp2
   go_ret
   exact ⟨by rw [hend.out]; rfl, hbw⟩
 rw [if_neg hs] at h
 exact absurd h (by simp)
end Go.Proofs.YtcndmhpeolbepaaGreatDoor.Fn
namespace Go.Proofs.YtcndmhpeolbepaaGreatDoor.Pl
open Go.Proofs.YtcndmhpeolbepaaGreatDoor.Fn
/-! Taken by extract.py out of XPGlyph.lean.tpl, XPWords.lean.tpl, XPClean.lean.tpl, XPClip.lean.tpl, XPOrder.lean.tpl, XPureOrderLines.lean.tpl. -/
theorem get_lt (s : ByteArray) (i : Nat) : (s.get! i).toNat < 256 := (s.get! i).toNat_lt
theorem get_bs (s : ByteArray) (i : Nat) (h : i < s.size) : (bs s)[i]? = some (s.get! i) := by
 unfold bs
 have h' : i < s.data.size := h
 rw [Array.getElem?_toList, Array.getElem?_eq_getElem h']
 congr 1
 show s.data[i] = s.data[i]!
 rw [getElem!_pos s.data i h']
theorem drop_get (s : ByteArray) (i : Nat) (h : i < s.size) : (bs s).drop i = s.get! i :: (bs s).drop (i + 1) := by
 have h1 : i < (bs s).length := by rw [bs_length]; exact h
 rw [List.drop_eq_getElem_cons h1]
 congr 1
 have := get_bs s i h
 rw [List.getElem?_eq_getElem h1] at this
 exact Option.some.inj this
theorem sign_valid (s : ByteArray) (i : Nat) : sign s i < 55296 ∨ (57344 ≤ sign s i ∧ sign s i ≤ 1114111) := by
 unfold sign
 rw [Lib.decode_at]
 have g0 := get_lt s i
 unfold Lib.decodeN
 repeat' split
 all_goals (simp only []; omega)
theorem enc_length (n : Int) : (Lib.encodeRune n).length ≤ 4 := by
 have := (Lib.runeCells_le n).2
 rwa [Lib.runeCells_length] at this
theorem cleanR_length (r : Nat) : (cleanR r).length ≤ 4 := by
 unfold cleanR
 split
 ·simp
 exact enc_length _
theorem cleanFrom_length (s : ByteArray) : ∀ n i, (cleanFrom s n i).length ≤ 4 * n := by
 intro n
 induction n with
 | zero => intro i; simp [cleanFrom]
 | succ n ih =>
  intro i
  unfold cleanFrom
  split
  ·have := ih (i + width s i)
   have := cleanR_length (sign s i)
   simp; omega
  simp
theorem clean_length (s : ByteArray) : (clean s).length ≤ 4 * s.size := cleanFrom_length s _ _
/-! Layer 13, the program's: labels. -/
def labelled (c : UInt8) : Bool := (addr_labelled.f (c.toNat : Int)).getD false
theorem labelled_is (c : UInt8) : addr_labelled.f (c.toNat : Int) = some (labelled c) := by
 have : ∀ x : Int, (addr_labelled.f x).isSome := by
  intro x
  unfold addr_labelled.f
  repeat' split
  all_goals rfl
 unfold labelled
 have h := this (c.toNat : Int)
 cases hx : addr_labelled.f (c.toNat : Int) with
 | none => rw [hx] at h; cases h
 | some b => rfl
def labelL (l : Bytes) : Bool := l.all labelled && (match l.head?, l.getLast? with | some a, some b => a != 45 && b != 45 | _, _ => false)
def label (s : ByteArray) : Bool := labelL (bs s)
theorem byte_45 (c : UInt8) : ((c.toNat : Int) = 45) = (c = 45) := propext ⟨fun h => UInt8.toNat_inj.1 (by simpa using (by omega : c.toNat = 45)), fun h => by rw [h]; rfl⟩
theorem byte_ne45 (c : UInt8) : ((c.toNat : Int) != 45) = (c != 45) := by
 rw [Bool.eq_iff_iff, bne_iff_ne, bne_iff_ne, ne_eq, ne_eq, byte_45]
theorem addrLabel_end (s : ByteArray) (hs : s.size ≤ 140737488355328) (k : Nat) (i : Nat) (hi : s.size ≤ i) : addr_label.l0 (k + 1) s (s.size : Int) (i : Int) = some (match (bs s).head?, (bs s).getLast? with | some a, some b => a != 45 && b != 45 | _, _ => false) := by
 rw [addr_label.l0, if_neg (by omega), toList_bs]
 cases hb : bs s with
 | nil => simp
 | cons c rest =>
  have hlen : s.size = rest.length + 1 := by rw [← bs_length, hb]; simp
  have h0 : bt s 0 = (c.toNat : Int) := by
   have := bt_drop (s := s) (i := 0) (c := c) (r := rest) (by simpa using hb)
   simpa using this
  rw [if_neg (by simp), if_pos (by omega), h0]
  have hl : (c :: rest).getLast? = some ((c :: rest).getLast (by simp)) := List.getLast?_eq_some_getLast (by simp)
  rw [hl]
  simp only [List.head?_cons]
  by_cases hc : c = 45
  ·rw [if_pos (by rw [byte_45]; exact hc)]; simp [hc]
  rw [if_neg (by rw [byte_45]; exact hc)]
  rw [wrap_id (by omega) (by omega), if_pos (by omega), if_pos (by omega)]
  have hlast : bt s ((s.size : Int) - 1) = (((c :: rest).getLast (by simp)).toNat : Int) := by
   have e : ((s.size : Int) - 1) = ((s.size - 1 : Nat) : Int) := by omega
   rw [e, bt_bs s (s.size - 1) (by rw [bs_length]; omega)]
   congr 2
   simp only [hb, List.getLast_eq_getElem, hlen]
   rfl
  rw [hlast, byte_ne45]
  simp [hc]
theorem addrLabel_l0 (s : ByteArray) (hs : s.size ≤ 140737488355328) : ∀ (rest : Bytes) (i k : Nat), (bs s).drop i = rest → i ≤ (bs s).length → rest.length + 1 ≤ k →
  addr_label.l0 k s (s.size : Int) (i : Int) = some (rest.all labelled && (match (bs s).head?, (bs s).getLast? with | some a, some b => a != 45 && b != 45 | _, _ => false))
 | [], i, k, hd, hi, hk => by
  obtain ⟨k, rfl⟩ : ∃ j, k = j + 1 := ⟨k - 1, by omega⟩
  have := drop_nil hd
  rw [addrLabel_end s hs k i (by rw [bs_length] at this; exact this)]
  simp
 | c :: rest, i, k, hd, hi, hk => by
  obtain ⟨k, rfl⟩ : ∃ j, k = j + 1 := ⟨k - 1, by omega⟩
  obtain ⟨h1, h2, h3, h4⟩ := drop_cons hd
  have h5 : i < s.size := by rw [bs_length] at h1; exact h1
  rw [addr_label.l0, if_pos (by omega), if_pos (by omega), if_pos (by omega), bt_drop hd, labelled_is, Option.bind_some]
  cases ha : labelled c with
  | true =>
   rw [if_pos rfl, wrap_succ i (by omega), addrLabel_l0 s hs rest (i + 1) k h3 (by omega) (by simp at hk; omega)]
   simp [ha]
  | false =>
   rw [if_neg (by simp)]
   simp [ha]
theorem addrLabel_is (s : ByteArray) (hs : s.size ≤ 140737488355328) (k : Nat) (hk : s.size + 1 ≤ k) : addr_label.f k s = some (label s) := by
 have := addrLabel_l0 s hs (bs s) 0 k (by simp) (by omega) (by rw [bs_length]; omega)
 unfold addr_label.f label labelL
 exact this
/-! The reference's glyph functions, as the plain ones. -/
end Go.Proofs.YtcndmhpeolbepaaGreatDoor.Pl
/-
 DERIVED: THE SHELF's CONTRACTS AT THIS DUMP, IN PLAIN WORDS (tools/lay-plain.mjs out of 'TryzShelf.lean', which tools/lay-shelf.mjs wrote): THE SAME DECLARATIONS UNDER THE SAME NAMES: 'import', 'namespace', 'open', 'def', 'theorem' AND NOTHING ELSE: no command of the shelf's: FOR A HAND-IN. Each laying: the table of numbers ('.._ren') and one theorem, a field a fact of the dump's own or the kernel's comparison; each contract: ONE APPLICATION.
-/
namespace Go.Proofs
open Go.Shelf
def Tryz.lays169_ren : Go.Shelf.Ren := ⟨fun | 169 => 49 | n => n, fun | 70 => 82 | 9 => 9 | 0 => 0 | 72 => 85 | 37 => 83 | 127 => 121 | 3 => 3 | 5 => 5 | n => n, fun | n => n⟩
theorem Tryz.lays169 : Go.Proofs.Lays.n169 Tryz.prog Tryz.lays169_ren := {
 mixed := by kernel_rfl
 f169 := Tryz.func49.trans (congrArg some (by kernel_rfl))
 t0 := Tryz.underlying0
 a0 := Tryz.isAgg0
 z0 := Tryz.sizeOf0
 v0 := Tryz.zeroValue0
 t3 := Tryz.underlying3
 a3 := Tryz.isAgg3
 z3 := Tryz.sizeOf3
 v3 := Tryz.zeroValue3
 t9 := Tryz.underlying9
 a9 := Tryz.isAgg9
 z9 := Tryz.sizeOf9
 v9 := Tryz.zeroValue9
 t37 := Tryz.underlying83
 a37 := Tryz.isAgg83
 z37 := Tryz.sizeOf83
 v37 := Tryz.zeroValue83
 t70 := Tryz.underlying82
 a70 := Tryz.isAgg82
 z70 := Tryz.sizeOf82
 v70 := Tryz.zeroValue82
 t72 := Tryz.underlying85
 a72 := Tryz.isAgg85
 z72 := Tryz.sizeOf85
 v72 := Tryz.zeroValue85
 t127 := Tryz.underlying121
 a127 := Tryz.isAgg121
 z127 := Tryz.sizeOf121
 v127 := Tryz.zeroValue121 }
theorem Tryz.Builder_Extra_169 : Builder.Extra Tryz.prog Tryz.lays169_ren := {
 sizeBuilder := by kernel_rfl
 liesBuilder := by kernel_rfl
 t5 := Tryz.underlying5
 a5 := Tryz.isAgg5
 z5 := Tryz.sizeOf5
 v5 := Tryz.zeroValue5
 infoByte := by kernel_rfl
 cellsByte := by kernel_rfl
 sizeByte := by kernel_rfl
 neB5 := by decide }
def Tryz.lays156_ren : Go.Shelf.Ren := ⟨fun | 156 => 203 | 165 => 211 | 166 => 96 | 169 => 49 | 240 => 87 | 241 => 215 | 276 => 125 | 277 => 221 | n => n, fun | 31 => 48 | 9 => 9 | 3 => 3 | 4 => 4 | 0 => 0 | 20 => 20 | 72 => 85 | 76 => 127 | 70 => 82 | 37 => 83 | 75 => 87 | 127 => 121 | 164 => 154 | 5 => 5 | 80 => 63 | n => n, fun | n => n⟩
theorem Tryz.lays156 : Go.Proofs.Lays.n156 Tryz.prog Tryz.lays156_ren := {
 mixed := by kernel_rfl
 f156 := Tryz.func203.trans (congrArg some (by kernel_rfl))
 f165 := Tryz.func211.trans (congrArg some (by kernel_rfl))
 f166 := Tryz.func96.trans (congrArg some (by kernel_rfl))
 f169 := Tryz.func49.trans (congrArg some (by kernel_rfl))
 f240 := Tryz.func87.trans (congrArg some (by kernel_rfl))
 f241 := Tryz.func215.trans (congrArg some (by kernel_rfl))
 f276 := Tryz.func125.trans (congrArg some (by kernel_rfl))
 f277 := Tryz.func221.trans (congrArg some (by kernel_rfl))
 t0 := Tryz.underlying0
 a0 := Tryz.isAgg0
 z0 := Tryz.sizeOf0
 v0 := Tryz.zeroValue0
 t3 := Tryz.underlying3
 a3 := Tryz.isAgg3
 z3 := Tryz.sizeOf3
 v3 := Tryz.zeroValue3
 t4 := Tryz.underlying4
 a4 := Tryz.isAgg4
 z4 := Tryz.sizeOf4
 v4 := Tryz.zeroValue4
 t9 := Tryz.underlying9
 a9 := Tryz.isAgg9
 z9 := Tryz.sizeOf9
 v9 := Tryz.zeroValue9
 t20 := Tryz.underlying20
 a20 := Tryz.isAgg20
 z20 := Tryz.sizeOf20
 v20 := Tryz.zeroValue20
 t31 := Tryz.underlying48
 a31 := Tryz.isAgg48
 z31 := Tryz.sizeOf48
 v31 := Tryz.zeroValue48
 t37 := Tryz.underlying83
 a37 := Tryz.isAgg83
 z37 := Tryz.sizeOf83
 v37 := Tryz.zeroValue83
 t70 := Tryz.underlying82
 a70 := Tryz.isAgg82
 z70 := Tryz.sizeOf82
 v70 := Tryz.zeroValue82
 t72 := Tryz.underlying85
 a72 := Tryz.isAgg85
 z72 := Tryz.sizeOf85
 v72 := Tryz.zeroValue85
 t75 := Tryz.underlying87
 a75 := Tryz.isAgg87
 z75 := Tryz.sizeOf87
 v75 := Tryz.zeroValue87
 t76 := Tryz.underlying127
 a76 := Tryz.isAgg127
 z76 := Tryz.sizeOf127
 v76 := Tryz.zeroValue127
 t127 := Tryz.underlying121
 a127 := Tryz.isAgg121
 z127 := Tryz.sizeOf121
 v127 := Tryz.zeroValue121
 t164 := Tryz.underlying154
 a164 := Tryz.isAgg154
 z164 := Tryz.sizeOf154
 v164 := Tryz.zeroValue154 }
theorem Tryz.Builder_Extra_156 : Builder.Extra Tryz.prog Tryz.lays156_ren := {
 sizeBuilder := by kernel_rfl
 liesBuilder := by kernel_rfl
 t5 := Tryz.underlying5
 a5 := Tryz.isAgg5
 z5 := Tryz.sizeOf5
 v5 := Tryz.zeroValue5
 infoByte := by kernel_rfl
 cellsByte := by kernel_rfl
 sizeByte := by kernel_rfl
 neB5 := by decide }
open Go.RowKit in

theorem Tryz.strings_Join_none (a : Option Addr) (c : Nat) (sep : ByteArray) (w : World) :
  Calls Tryz.prog 203 #[.slice a 0 c, .string sep] w fun e w' => e = .returned (.string ⟨#[]⟩) ∧ w' = w := Any.strings_Join_none Tryz.lays156 Tryz.Builder_Extra_156 a c sep w
open Go.RowKit in

theorem Tryz.strings_Join (bk o c : Nat) (xs : List ByteArray) (sep : ByteArray) (w : World) (hcells : ∀ (j : Nat) x, xs[j]? = some x → w.cell? ⟨bk, o + j, none⟩ = some (.string x)) (hbk : bk < w.heap.size) (hN : xs.length ≤ 140737488355328) (hcap : xs.length ≤ c) (hlen : (Lib.join (xs.map (·.data.toList)) sep.data.toList).length ≤ 140737488355328) :
  Calls Tryz.prog 203 #[.slice (some ⟨bk, o, none⟩) xs.length c, .string sep] w fun e w' => e = .returned (.string ⟨(Lib.join (xs.map (·.data.toList)) sep.data.toList).toArray⟩) ∧ Below w.heap.size w w' := Any.strings_Join Tryz.lays156 Tryz.Builder_Extra_156 bk o c xs sep w hcells hbk hN hcap hlen
def Tryz.lays161_ren : Go.Shelf.Ren := ⟨fun | 161 => 97 | 231 => 103 | 227 => 100 | 233 => 104 | 235 => 105 | 228 => 137 | 197 => 140 | 151 => 139 | 260 => 170 | 152 => 169 | 137 => 172 | 119 => 195 | 224 => 166 | 225 => 165 | 217 => 164 | 266 => 193 | n => n, fun | 9 => 9 | 4 => 4 | 3 => 3 | 5 => 5 | 117 => 136 | 116 => 135 | 0 => 0 | 124 => 139 | 105 => 162 | 21 => 21 | 119 => 205 | 46 => 144 | 139 => 208 | 138 => 207 | n => n, fun | 3 => 5 | 4 => 6 | n => n⟩
theorem Tryz.lays161 : Go.Proofs.Lays.n161 Tryz.prog Tryz.lays161_ren := {
 mixed := by kernel_rfl
 f119 := Tryz.func195.trans (congrArg some (by kernel_rfl))
 f137 := Tryz.func172.trans (congrArg some (by kernel_rfl))
 f151 := Tryz.func139.trans (congrArg some (by kernel_rfl))
 f152 := Tryz.func169.trans (congrArg some (by kernel_rfl))
 f161 := Tryz.func97.trans (congrArg some (by kernel_rfl))
 f197 := Tryz.func140.trans (congrArg some (by kernel_rfl))
 f217 := Tryz.func164.trans (congrArg some (by kernel_rfl))
 f224 := Tryz.func166.trans (congrArg some (by kernel_rfl))
 f225 := Tryz.func165.trans (congrArg some (by kernel_rfl))
 f227 := Tryz.func100.trans (congrArg some (by kernel_rfl))
 f228 := Tryz.func137.trans (congrArg some (by kernel_rfl))
 f231 := Tryz.func103.trans (congrArg some (by kernel_rfl))
 f233 := Tryz.func104.trans (congrArg some (by kernel_rfl))
 f235 := Tryz.func105.trans (congrArg some (by kernel_rfl))
 f260 := Tryz.func170.trans (congrArg some (by kernel_rfl))
 f266 := Tryz.func193.trans (congrArg some (by kernel_rfl))
 t0 := Tryz.underlying0
 a0 := Tryz.isAgg0
 z0 := Tryz.sizeOf0
 v0 := Tryz.zeroValue0
 t3 := Tryz.underlying3
 a3 := Tryz.isAgg3
 z3 := Tryz.sizeOf3
 v3 := Tryz.zeroValue3
 t4 := Tryz.underlying4
 a4 := Tryz.isAgg4
 z4 := Tryz.sizeOf4
 v4 := Tryz.zeroValue4
 t5 := Tryz.underlying5
 a5 := Tryz.isAgg5
 z5 := Tryz.sizeOf5
 v5 := Tryz.zeroValue5
 t9 := Tryz.underlying9
 a9 := Tryz.isAgg9
 z9 := Tryz.sizeOf9
 v9 := Tryz.zeroValue9
 t21 := Tryz.underlying21
 a21 := Tryz.isAgg21
 z21 := Tryz.sizeOf21
 v21 := Tryz.zeroValue21
 t46 := Tryz.underlying144
 a46 := Tryz.isAgg144
 z46 := Tryz.sizeOf144
 v46 := Tryz.zeroValue144
 t105 := Tryz.underlying162
 a105 := Tryz.isAgg162
 z105 := Tryz.sizeOf162
 v105 := Tryz.zeroValue162
 t116 := Tryz.underlying135
 a116 := Tryz.isAgg135
 z116 := Tryz.sizeOf135
 t117 := Tryz.underlying136
 a117 := Tryz.isAgg136
 z117 := Tryz.sizeOf136
 v117 := Tryz.zeroValue136
 t119 := Tryz.underlying205
 a119 := Tryz.isAgg205
 z119 := Tryz.sizeOf205
 t124 := Tryz.underlying139
 a124 := Tryz.isAgg139
 z124 := Tryz.sizeOf139
 v124 := Tryz.zeroValue139
 t138 := Tryz.underlying207
 a138 := Tryz.isAgg207
 z138 := Tryz.sizeOf207
 v138 := Tryz.zeroValue207
 t139 := Tryz.underlying208
 a139 := Tryz.isAgg208
 z139 := Tryz.sizeOf208
 v139 := Tryz.zeroValue208
 g3 := by kernel_rfl
 g4 := by kernel_rfl }
def Tryz.lays162_ren : Go.Shelf.Ren := ⟨fun | 162 => 60 | 232 => 99 | 227 => 100 | 234 => 101 | 236 => 102 | 228 => 137 | 271 => 138 | 151 => 139 | 120 => 168 | 197 => 140 | 152 => 169 | 260 => 170 | 137 => 172 | 119 => 195 | 224 => 166 | 225 => 165 | 217 => 164 | 266 => 193 | n => n, fun | 9 => 9 | 4 => 4 | 3 => 3 | 5 => 5 | 117 => 136 | 116 => 135 | 0 => 0 | 124 => 139 | 21 => 21 | 105 => 162 | 46 => 144 | 119 => 205 | 139 => 208 | 138 => 207 | n => n, fun | 3 => 5 | 4 => 6 | n => n⟩
theorem Tryz.lays162 : Go.Proofs.Lays.n162 Tryz.prog Tryz.lays162_ren := {
 mixed := by kernel_rfl
 f119 := Tryz.func195.trans (congrArg some (by kernel_rfl))
 f120 := Tryz.func168.trans (congrArg some (by kernel_rfl))
 f137 := Tryz.func172.trans (congrArg some (by kernel_rfl))
 f151 := Tryz.func139.trans (congrArg some (by kernel_rfl))
 f152 := Tryz.func169.trans (congrArg some (by kernel_rfl))
 f162 := Tryz.func60.trans (congrArg some (by kernel_rfl))
 f197 := Tryz.func140.trans (congrArg some (by kernel_rfl))
 f217 := Tryz.func164.trans (congrArg some (by kernel_rfl))
 f224 := Tryz.func166.trans (congrArg some (by kernel_rfl))
 f225 := Tryz.func165.trans (congrArg some (by kernel_rfl))
 f227 := Tryz.func100.trans (congrArg some (by kernel_rfl))
 f228 := Tryz.func137.trans (congrArg some (by kernel_rfl))
 f232 := Tryz.func99.trans (congrArg some (by kernel_rfl))
 f234 := Tryz.func101.trans (congrArg some (by kernel_rfl))
 f236 := Tryz.func102.trans (congrArg some (by kernel_rfl))
 f260 := Tryz.func170.trans (congrArg some (by kernel_rfl))
 f266 := Tryz.func193.trans (congrArg some (by kernel_rfl))
 f271 := Tryz.func138.trans (congrArg some (by kernel_rfl))
 t0 := Tryz.underlying0
 a0 := Tryz.isAgg0
 z0 := Tryz.sizeOf0
 v0 := Tryz.zeroValue0
 t3 := Tryz.underlying3
 a3 := Tryz.isAgg3
 z3 := Tryz.sizeOf3
 v3 := Tryz.zeroValue3
 t4 := Tryz.underlying4
 a4 := Tryz.isAgg4
 z4 := Tryz.sizeOf4
 v4 := Tryz.zeroValue4
 t5 := Tryz.underlying5
 a5 := Tryz.isAgg5
 z5 := Tryz.sizeOf5
 v5 := Tryz.zeroValue5
 t9 := Tryz.underlying9
 a9 := Tryz.isAgg9
 z9 := Tryz.sizeOf9
 v9 := Tryz.zeroValue9
 t21 := Tryz.underlying21
 a21 := Tryz.isAgg21
 z21 := Tryz.sizeOf21
 v21 := Tryz.zeroValue21
 t46 := Tryz.underlying144
 a46 := Tryz.isAgg144
 z46 := Tryz.sizeOf144
 v46 := Tryz.zeroValue144
 t105 := Tryz.underlying162
 a105 := Tryz.isAgg162
 z105 := Tryz.sizeOf162
 v105 := Tryz.zeroValue162
 t116 := Tryz.underlying135
 a116 := Tryz.isAgg135
 z116 := Tryz.sizeOf135
 t117 := Tryz.underlying136
 a117 := Tryz.isAgg136
 z117 := Tryz.sizeOf136
 v117 := Tryz.zeroValue136
 t119 := Tryz.underlying205
 a119 := Tryz.isAgg205
 z119 := Tryz.sizeOf205
 t124 := Tryz.underlying139
 a124 := Tryz.isAgg139
 z124 := Tryz.sizeOf139
 v124 := Tryz.zeroValue139
 t138 := Tryz.underlying207
 a138 := Tryz.isAgg207
 z138 := Tryz.sizeOf207
 v138 := Tryz.zeroValue207
 t139 := Tryz.underlying208
 a139 := Tryz.isAgg208
 z139 := Tryz.sizeOf208
 v139 := Tryz.zeroValue208
 g3 := by kernel_rfl
 g4 := by kernel_rfl }
def Tryz.lays119_ren : Go.Shelf.Ren := ⟨fun | 119 => 195 | n => n, fun | 21 => 21 | 4 => 4 | n => n, fun | n => n⟩
theorem Tryz.lays119 : Go.Proofs.Lays.n119 Tryz.prog Tryz.lays119_ren := {
 mixed := by kernel_rfl
 f119 := Tryz.func195.trans (congrArg some (by kernel_rfl))
 t4 := Tryz.underlying4
 a4 := Tryz.isAgg4
 z4 := Tryz.sizeOf4
 v4 := Tryz.zeroValue4
 t21 := Tryz.underlying21
 a21 := Tryz.isAgg21
 z21 := Tryz.sizeOf21
 v21 := Tryz.zeroValue21 }

theorem Tryz.utf8_ValidRune (r : Int) (w : World) :
  Calls Tryz.prog 195 #[.int .i32 r] w fun e w' => e = .returned (.bool (Lib.validRune r)) ∧ w' = w := Any.utf8_ValidRune Tryz.lays119 r w
def Tryz.lays137_ren : Go.Shelf.Ren := ⟨fun | 137 => 172 | 217 => 164 | 266 => 193 | n => n, fun | 9 => 9 | 5 => 5 | 3 => 3 | n => n, fun | n => n⟩
theorem Tryz.lays137 : Go.Proofs.Lays.n137 Tryz.prog Tryz.lays137_ren := {
 mixed := by kernel_rfl
 f137 := Tryz.func172.trans (congrArg some (by kernel_rfl))
 f217 := Tryz.func164.trans (congrArg some (by kernel_rfl))
 f266 := Tryz.func193.trans (congrArg some (by kernel_rfl))
 t3 := Tryz.underlying3
 a3 := Tryz.isAgg3
 z3 := Tryz.sizeOf3
 v3 := Tryz.zeroValue3
 t5 := Tryz.underlying5
 a5 := Tryz.isAgg5
 z5 := Tryz.sizeOf5
 v5 := Tryz.zeroValue5
 t9 := Tryz.underlying9
 a9 := Tryz.isAgg9
 z9 := Tryz.sizeOf9
 v9 := Tryz.zeroValue9 }
open Go.RowKit in

theorem Tryz.strings_IndexByte (s : ByteArray) (c : Int) (w : World) :
  Calls Tryz.prog 172 #[.string s, .int .u8 c] w fun e w' => e = .returned (.int .i64 (Lib.indexByte s.data.toList c.toNat.toUInt8)) ∧ w' = w := Any.strings_IndexByte Tryz.lays137 s c w
open Go.RowKit in

theorem Tryz.Builder_String_any_k (B b : Nat) (l : List UInt8) (w : World) (h : Lib.IsBuilderF 85 5 B b (Lib.byteCells l) w) (hBw : B ≤ w.heap.size) :
  Calls Tryz.prog 49 #[.pointer (some ⟨b, 0, none⟩)] w fun e w' => e = .returned (.string ⟨l.toArray⟩) ∧ (Lib.IsBuilderF 85 5 B b (Lib.byteCells l) w' ∧ Below B w w' ∧ Lib.OthersKept 5 (some b) w w') := Any.Builder_String_any_k Tryz.lays169 Tryz.Builder_Extra_169 B b l w h hBw
def Tryz.lays242_ren : Go.Shelf.Ren := ⟨fun | 242 => 129 | 278 => 157 | n => n, fun | 37 => 83 | 21 => 21 | 51 => 180 | 4 => 4 | 5 => 5 | 46 => 144 | n => n, fun | n => n⟩
theorem Tryz.lays242 : Go.Proofs.Lays.n242 Tryz.prog Tryz.lays242_ren := {
 mixed := by kernel_rfl
 f242 := Tryz.func129.trans (congrArg some (by kernel_rfl))
 f278 := Tryz.func157.trans (congrArg some (by kernel_rfl))
 t4 := Tryz.underlying4
 a4 := Tryz.isAgg4
 z4 := Tryz.sizeOf4
 v4 := Tryz.zeroValue4
 t5 := Tryz.underlying5
 a5 := Tryz.isAgg5
 z5 := Tryz.sizeOf5
 v5 := Tryz.zeroValue5
 t21 := Tryz.underlying21
 a21 := Tryz.isAgg21
 z21 := Tryz.sizeOf21
 v21 := Tryz.zeroValue21
 t37 := Tryz.underlying83
 a37 := Tryz.isAgg83
 z37 := Tryz.sizeOf83
 v37 := Tryz.zeroValue83
 t46 := Tryz.underlying144
 a46 := Tryz.isAgg144
 z46 := Tryz.sizeOf144
 v46 := Tryz.zeroValue144
 t51 := Tryz.underlying180
 a51 := Tryz.isAgg180
 z51 := Tryz.sizeOf180
 v51 := Tryz.zeroValue180 }
open Go.RowKit in

theorem Tryz.utf8_AppendRune_row (B : Nat) (v : Value) (n : Nat) (xs : List Value) (r : Int) (hr0 : -2147483648 ≤ r) (hr1 : r ≤ 2147483647) (w : World) (hown : w.ownsRowF B 5 1 v n xs) (hlen : n + 4 ≤ 140737488355328) (hBw : B ≤ w.heap.size) :
  Calls Tryz.prog 129 #[v, .int .i32 r] w fun e w' => ∃ v', e = .returned v' ∧ w'.ownsRowF B 5 1 v' (n + (Lib.runeCells r).length) (xs ++ Lib.runeCells r) ∧ ∃ o, (w.alloc o).grownBy w' v.ownBlock := Any.utf8_AppendRune_row Tryz.lays242 (by kernel_rfl) B v n xs r hr0 hr1 w hown hlen hBw
def Tryz.lays143_ren : Go.Shelf.Ren := ⟨fun | 143 => 98 | 219 => 136 | 217 => 164 | 225 => 165 | 224 => 166 | 267 => 167 | 266 => 193 | 314 => 194 | n => n, fun | 9 => 9 | 3 => 3 | 4 => 4 | 5 => 5 | 46 => 144 | 146 => 203 | 51 => 180 | n => n, fun | 1 => 2 | n => n⟩
theorem Tryz.lays143 : Go.Proofs.Lays.n143 Tryz.prog Tryz.lays143_ren := {
 mixed := by kernel_rfl
 f143 := Tryz.func98.trans (congrArg some (by kernel_rfl))
 f217 := Tryz.func164.trans (congrArg some (by kernel_rfl))
 f219 := Tryz.func136.trans (congrArg some (by kernel_rfl))
 f224 := Tryz.func166.trans (congrArg some (by kernel_rfl))
 f225 := Tryz.func165.trans (congrArg some (by kernel_rfl))
 f266 := Tryz.func193.trans (congrArg some (by kernel_rfl))
 f267 := Tryz.func167.trans (congrArg some (by kernel_rfl))
 f314 := Tryz.func194.trans (congrArg some (by kernel_rfl))
 t3 := Tryz.underlying3
 a3 := Tryz.isAgg3
 z3 := Tryz.sizeOf3
 v3 := Tryz.zeroValue3
 t4 := Tryz.underlying4
 a4 := Tryz.isAgg4
 z4 := Tryz.sizeOf4
 v4 := Tryz.zeroValue4
 t5 := Tryz.underlying5
 a5 := Tryz.isAgg5
 z5 := Tryz.sizeOf5
 v5 := Tryz.zeroValue5
 t9 := Tryz.underlying9
 a9 := Tryz.isAgg9
 z9 := Tryz.sizeOf9
 v9 := Tryz.zeroValue9
 t46 := Tryz.underlying144
 a46 := Tryz.isAgg144
 z46 := Tryz.sizeOf144
 v46 := Tryz.zeroValue144
 t51 := Tryz.underlying180
 a51 := Tryz.isAgg180
 z51 := Tryz.sizeOf180
 v51 := Tryz.zeroValue180
 t146 := Tryz.underlying203
 a146 := Tryz.isAgg203
 z146 := Tryz.sizeOf203
 v146 := Tryz.zeroValue203
 g1 := by kernel_rfl }
open Go.RowKit Go.Lib in

theorem Tryz.strings_Index_one (s : ByteArray) (c : UInt8) (w : World) :
  Calls Tryz.prog 98 #[.string s, .string ⟨#[c]⟩] w fun e w' => e = .returned (.int .i64 (Lib.indexByte s.data.toList c)) ∧ w' = w := Any.strings_Index_one Tryz.lays143 s c w
def Tryz.lays144_ren : Go.Shelf.Ren := ⟨fun | 144 => 58 | 143 => 98 | 219 => 136 | 217 => 164 | 225 => 165 | 224 => 166 | 267 => 167 | 266 => 193 | 314 => 194 | n => n, fun | 9 => 9 | 4 => 4 | 3 => 3 | 5 => 5 | 46 => 144 | 146 => 203 | 51 => 180 | n => n, fun | 1 => 2 | n => n⟩
theorem Tryz.lays144 : Go.Proofs.Lays.n144 Tryz.prog Tryz.lays144_ren := {
 mixed := by kernel_rfl
 f143 := Tryz.func98.trans (congrArg some (by kernel_rfl))
 f144 := Tryz.func58.trans (congrArg some (by kernel_rfl))
 f217 := Tryz.func164.trans (congrArg some (by kernel_rfl))
 f219 := Tryz.func136.trans (congrArg some (by kernel_rfl))
 f224 := Tryz.func166.trans (congrArg some (by kernel_rfl))
 f225 := Tryz.func165.trans (congrArg some (by kernel_rfl))
 f266 := Tryz.func193.trans (congrArg some (by kernel_rfl))
 f267 := Tryz.func167.trans (congrArg some (by kernel_rfl))
 f314 := Tryz.func194.trans (congrArg some (by kernel_rfl))
 t3 := Tryz.underlying3
 a3 := Tryz.isAgg3
 z3 := Tryz.sizeOf3
 v3 := Tryz.zeroValue3
 t4 := Tryz.underlying4
 a4 := Tryz.isAgg4
 z4 := Tryz.sizeOf4
 v4 := Tryz.zeroValue4
 t5 := Tryz.underlying5
 a5 := Tryz.isAgg5
 z5 := Tryz.sizeOf5
 v5 := Tryz.zeroValue5
 t9 := Tryz.underlying9
 a9 := Tryz.isAgg9
 z9 := Tryz.sizeOf9
 v9 := Tryz.zeroValue9
 t46 := Tryz.underlying144
 a46 := Tryz.isAgg144
 z46 := Tryz.sizeOf144
 v46 := Tryz.zeroValue144
 t51 := Tryz.underlying180
 a51 := Tryz.isAgg180
 z51 := Tryz.sizeOf180
 v51 := Tryz.zeroValue180
 t146 := Tryz.underlying203
 a146 := Tryz.isAgg203
 z146 := Tryz.sizeOf203
 v146 := Tryz.zeroValue203
 g1 := by kernel_rfl }
open Go.RowKit Go.Lib in

theorem Tryz.strings_Contains (s sub : ByteArray) (m : Int) (w : World) (hs : s.size < 4294967281) (hm : w.cell? ⟨2, 0, none⟩ = some (.int .i64 m)) :
  Calls Tryz.prog 58 #[.string s, .string sub] w fun e w' => e = .returned (.bool (Lib.contains s.data.toList sub.data.toList)) ∧ w' = w := Any.strings_Contains Tryz.lays144 s sub m w hs hm
def Tryz.lays147_ren : Go.Shelf.Ren := ⟨fun | 147 => 131 | 221 => 159 | 268 => 187 | 138 => 188 | 143 => 98 | 195 => 205 | 197 => 140 | 218 => 206 | 219 => 136 | 260 => 170 | 217 => 164 | 225 => 165 | 224 => 166 | 267 => 167 | 266 => 193 | 314 => 194 | n => n, fun | 9 => 9 | 3 => 3 | 31 => 48 | 4 => 4 | 0 => 0 | 105 => 162 | 21 => 21 | 5 => 5 | 46 => 144 | 119 => 205 | 139 => 208 | 138 => 207 | 146 => 203 | 51 => 180 | n => n, fun | 1 => 2 | 3 => 5 | 4 => 6 | n => n⟩
theorem Tryz.lays147 : Go.Proofs.Lays.n147 Tryz.prog Tryz.lays147_ren := {
 mixed := by kernel_rfl
 f138 := Tryz.func188.trans (congrArg some (by kernel_rfl))
 f143 := Tryz.func98.trans (congrArg some (by kernel_rfl))
 f147 := Tryz.func131.trans (congrArg some (by kernel_rfl))
 f195 := Tryz.func205.trans (congrArg some (by kernel_rfl))
 f197 := Tryz.func140.trans (congrArg some (by kernel_rfl))
 f217 := Tryz.func164.trans (congrArg some (by kernel_rfl))
 f218 := Tryz.func206.trans (congrArg some (by kernel_rfl))
 f219 := Tryz.func136.trans (congrArg some (by kernel_rfl))
 f221 := Tryz.func159.trans (congrArg some (by kernel_rfl))
 f224 := Tryz.func166.trans (congrArg some (by kernel_rfl))
 f225 := Tryz.func165.trans (congrArg some (by kernel_rfl))
 f260 := Tryz.func170.trans (congrArg some (by kernel_rfl))
 f266 := Tryz.func193.trans (congrArg some (by kernel_rfl))
 f267 := Tryz.func167.trans (congrArg some (by kernel_rfl))
 f268 := Tryz.func187.trans (congrArg some (by kernel_rfl))
 f314 := Tryz.func194.trans (congrArg some (by kernel_rfl))
 t0 := Tryz.underlying0
 a0 := Tryz.isAgg0
 z0 := Tryz.sizeOf0
 v0 := Tryz.zeroValue0
 t3 := Tryz.underlying3
 a3 := Tryz.isAgg3
 z3 := Tryz.sizeOf3
 v3 := Tryz.zeroValue3
 t4 := Tryz.underlying4
 a4 := Tryz.isAgg4
 z4 := Tryz.sizeOf4
 v4 := Tryz.zeroValue4
 t5 := Tryz.underlying5
 a5 := Tryz.isAgg5
 z5 := Tryz.sizeOf5
 v5 := Tryz.zeroValue5
 t9 := Tryz.underlying9
 a9 := Tryz.isAgg9
 z9 := Tryz.sizeOf9
 v9 := Tryz.zeroValue9
 t21 := Tryz.underlying21
 a21 := Tryz.isAgg21
 z21 := Tryz.sizeOf21
 v21 := Tryz.zeroValue21
 t31 := Tryz.underlying48
 a31 := Tryz.isAgg48
 z31 := Tryz.sizeOf48
 v31 := Tryz.zeroValue48
 t46 := Tryz.underlying144
 a46 := Tryz.isAgg144
 z46 := Tryz.sizeOf144
 v46 := Tryz.zeroValue144
 t51 := Tryz.underlying180
 a51 := Tryz.isAgg180
 z51 := Tryz.sizeOf180
 v51 := Tryz.zeroValue180
 t105 := Tryz.underlying162
 a105 := Tryz.isAgg162
 z105 := Tryz.sizeOf162
 v105 := Tryz.zeroValue162
 t119 := Tryz.underlying205
 a119 := Tryz.isAgg205
 z119 := Tryz.sizeOf205
 t138 := Tryz.underlying207
 a138 := Tryz.isAgg207
 z138 := Tryz.sizeOf207
 v138 := Tryz.zeroValue207
 t139 := Tryz.underlying208
 a139 := Tryz.isAgg208
 z139 := Tryz.sizeOf208
 v139 := Tryz.zeroValue208
 t146 := Tryz.underlying203
 a146 := Tryz.isAgg203
 z146 := Tryz.sizeOf203
 v146 := Tryz.zeroValue203
 g1 := by kernel_rfl
 g3 := by kernel_rfl
 g4 := by kernel_rfl }
open Go.RowKit Go.Lib in

theorem Tryz.strings_SplitN (s sep : ByteArray) (n : Nat) (m : Int) (w : World) (hs : s.size < 4294967281) (hm : w.cell? ⟨2, 0, none⟩ = some (.int .i64 m)) (h1 : 1 ≤ sep.size) (hn : 1 ≤ n) (hn63 : n ≤ 9223372036854775807) :
  Calls Tryz.prog 131 #[.string s, .string sep, .int .i64 n] w fun e w' =>
   e = .returned (.slice (some ⟨w.heap.size, 0, none⟩) (Lib.splitB sep 0 (min n (s.size + 1) - 1) s).length (min n (s.size + 1))) ∧ w' = w.alloc (.cells (Lib.cellsOf (Lib.splitB sep 0 (min n (s.size + 1) - 1) s) (min n (s.size + 1))) 9) := Any.strings_SplitN Tryz.lays147 (by kernel_rfl) s sep n m w hs hm h1 hn hn63
def Tryz.lays197_ren : Go.Shelf.Ren := ⟨fun | 197 => 140 | 260 => 170 | n => n, fun | 9 => 9 | 21 => 21 | 3 => 3 | 4 => 4 | 5 => 5 | 105 => 162 | 119 => 205 | 0 => 0 | 46 => 144 | 139 => 208 | 138 => 207 | n => n, fun | 3 => 5 | 4 => 6 | n => n⟩
theorem Tryz.lays197 : Go.Proofs.Lays.n197 Tryz.prog Tryz.lays197_ren := {
 mixed := by kernel_rfl
 f197 := Tryz.func140.trans (congrArg some (by kernel_rfl))
 f260 := Tryz.func170.trans (congrArg some (by kernel_rfl))
 t0 := Tryz.underlying0
 a0 := Tryz.isAgg0
 z0 := Tryz.sizeOf0
 v0 := Tryz.zeroValue0
 t3 := Tryz.underlying3
 a3 := Tryz.isAgg3
 z3 := Tryz.sizeOf3
 v3 := Tryz.zeroValue3
 t4 := Tryz.underlying4
 a4 := Tryz.isAgg4
 z4 := Tryz.sizeOf4
 v4 := Tryz.zeroValue4
 t5 := Tryz.underlying5
 a5 := Tryz.isAgg5
 z5 := Tryz.sizeOf5
 v5 := Tryz.zeroValue5
 t9 := Tryz.underlying9
 a9 := Tryz.isAgg9
 z9 := Tryz.sizeOf9
 v9 := Tryz.zeroValue9
 t21 := Tryz.underlying21
 a21 := Tryz.isAgg21
 z21 := Tryz.sizeOf21
 v21 := Tryz.zeroValue21
 t46 := Tryz.underlying144
 a46 := Tryz.isAgg144
 z46 := Tryz.sizeOf144
 v46 := Tryz.zeroValue144
 t105 := Tryz.underlying162
 a105 := Tryz.isAgg162
 z105 := Tryz.sizeOf162
 v105 := Tryz.zeroValue162
 t119 := Tryz.underlying205
 a119 := Tryz.isAgg205
 z119 := Tryz.sizeOf205
 t138 := Tryz.underlying207
 a138 := Tryz.isAgg207
 z138 := Tryz.sizeOf207
 v138 := Tryz.zeroValue207
 t139 := Tryz.underlying208
 a139 := Tryz.isAgg208
 z139 := Tryz.sizeOf208
 v139 := Tryz.zeroValue208
 g3 := by kernel_rfl
 g4 := by kernel_rfl }
def Tryz.lays152_ren : Go.Shelf.Ren := ⟨fun | 152 => 169 | 137 => 172 | 119 => 195 | 224 => 166 | 225 => 165 | 217 => 164 | 266 => 193 | n => n, fun | 9 => 9 | 21 => 21 | 3 => 3 | 4 => 4 | 5 => 5 | 0 => 0 | 46 => 144 | n => n, fun | n => n⟩
theorem Tryz.lays152 : Go.Proofs.Lays.n152 Tryz.prog Tryz.lays152_ren := {
 mixed := by kernel_rfl
 f119 := Tryz.func195.trans (congrArg some (by kernel_rfl))
 f137 := Tryz.func172.trans (congrArg some (by kernel_rfl))
 f152 := Tryz.func169.trans (congrArg some (by kernel_rfl))
 f217 := Tryz.func164.trans (congrArg some (by kernel_rfl))
 f224 := Tryz.func166.trans (congrArg some (by kernel_rfl))
 f225 := Tryz.func165.trans (congrArg some (by kernel_rfl))
 f266 := Tryz.func193.trans (congrArg some (by kernel_rfl))
 t0 := Tryz.underlying0
 a0 := Tryz.isAgg0
 z0 := Tryz.sizeOf0
 v0 := Tryz.zeroValue0
 t3 := Tryz.underlying3
 a3 := Tryz.isAgg3
 z3 := Tryz.sizeOf3
 v3 := Tryz.zeroValue3
 t4 := Tryz.underlying4
 a4 := Tryz.isAgg4
 z4 := Tryz.sizeOf4
 v4 := Tryz.zeroValue4
 t5 := Tryz.underlying5
 a5 := Tryz.isAgg5
 z5 := Tryz.sizeOf5
 v5 := Tryz.zeroValue5
 t9 := Tryz.underlying9
 a9 := Tryz.isAgg9
 z9 := Tryz.sizeOf9
 v9 := Tryz.zeroValue9
 t21 := Tryz.underlying21
 a21 := Tryz.isAgg21
 z21 := Tryz.sizeOf21
 v21 := Tryz.zeroValue21
 t46 := Tryz.underlying144
 a46 := Tryz.isAgg144
 z46 := Tryz.sizeOf144
 v46 := Tryz.zeroValue144 }
open Go.RowKit Go.Lib in
theorem Tryz.strings_IndexRune_ascii (s : ByteArray) (r : Int) (w : World) (h0 : 0 ≤ r) (h1 : r < 128) :
  Calls Tryz.prog 169 #[.string s, .int .i32 r] w fun e w' => e = .returned (.int .i64 (Lib.indexByte s.data.toList r.toNat.toUInt8)) ∧ w' = w := Any.strings_IndexRune_ascii Tryz.lays152 s r w h0 h1
def Tryz.lays226_ren : Go.Shelf.Ren := ⟨fun | 226 => 180 | n => n, fun | 3 => 3 | 4 => 4 | n => n, fun | n => n⟩
theorem Tryz.lays226 : Go.Proofs.Lays.n226 Tryz.prog Tryz.lays226_ren := {
 mixed := by kernel_rfl
 f226 := Tryz.func180.trans (congrArg some (by kernel_rfl))
 t3 := Tryz.underlying3
 a3 := Tryz.isAgg3
 z3 := Tryz.sizeOf3
 v3 := Tryz.zeroValue3
 t4 := Tryz.underlying4
 a4 := Tryz.isAgg4
 z4 := Tryz.sizeOf4
 v4 := Tryz.zeroValue4 }
open Go.RowKit Go.Lib in
theorem Tryz.strings_shouldUseASCIISet (n : Int) (w : World) :
  Calls Tryz.prog 180 #[.int .i64 n] w fun e w' => e = .returned (.bool (decide (8 < n))) ∧ w' = w := Any.strings_shouldUseASCIISet Tryz.lays226 n w
def Tryz.lays153_ren : Go.Shelf.Ren := ⟨fun | 153 => 153 | 152 => 169 | 226 => 180 | 227 => 100 | 228 => 137 | 137 => 172 | 119 => 195 | 224 => 166 | 225 => 165 | 217 => 164 | 266 => 193 | n => n, fun | 9 => 9 | 3 => 3 | 4 => 4 | 5 => 5 | 21 => 21 | 117 => 136 | 116 => 135 | 0 => 0 | 46 => 144 | 124 => 139 | n => n, fun | n => n⟩
theorem Tryz.lays153 : Go.Proofs.Lays.n153 Tryz.prog Tryz.lays153_ren := {
 mixed := by kernel_rfl
 f119 := Tryz.func195.trans (congrArg some (by kernel_rfl))
 f137 := Tryz.func172.trans (congrArg some (by kernel_rfl))
 f152 := Tryz.func169.trans (congrArg some (by kernel_rfl))
 f153 := Tryz.func153.trans (congrArg some (by kernel_rfl))
 f217 := Tryz.func164.trans (congrArg some (by kernel_rfl))
 f224 := Tryz.func166.trans (congrArg some (by kernel_rfl))
 f225 := Tryz.func165.trans (congrArg some (by kernel_rfl))
 f226 := Tryz.func180.trans (congrArg some (by kernel_rfl))
 f227 := Tryz.func100.trans (congrArg some (by kernel_rfl))
 f228 := Tryz.func137.trans (congrArg some (by kernel_rfl))
 f266 := Tryz.func193.trans (congrArg some (by kernel_rfl))
 t0 := Tryz.underlying0
 a0 := Tryz.isAgg0
 z0 := Tryz.sizeOf0
 v0 := Tryz.zeroValue0
 t3 := Tryz.underlying3
 a3 := Tryz.isAgg3
 z3 := Tryz.sizeOf3
 v3 := Tryz.zeroValue3
 t4 := Tryz.underlying4
 a4 := Tryz.isAgg4
 z4 := Tryz.sizeOf4
 v4 := Tryz.zeroValue4
 t5 := Tryz.underlying5
 a5 := Tryz.isAgg5
 z5 := Tryz.sizeOf5
 v5 := Tryz.zeroValue5
 t9 := Tryz.underlying9
 a9 := Tryz.isAgg9
 z9 := Tryz.sizeOf9
 v9 := Tryz.zeroValue9
 t21 := Tryz.underlying21
 a21 := Tryz.isAgg21
 z21 := Tryz.sizeOf21
 v21 := Tryz.zeroValue21
 t46 := Tryz.underlying144
 a46 := Tryz.isAgg144
 z46 := Tryz.sizeOf144
 v46 := Tryz.zeroValue144
 t116 := Tryz.underlying135
 a116 := Tryz.isAgg135
 z116 := Tryz.sizeOf135
 t117 := Tryz.underlying136
 a117 := Tryz.isAgg136
 z117 := Tryz.sizeOf136
 v117 := Tryz.zeroValue136
 t124 := Tryz.underlying139
 a124 := Tryz.isAgg139
 z124 := Tryz.sizeOf139
 v124 := Tryz.zeroValue139 }
def Tryz.lays105_ren : Go.Shelf.Ren := ⟨fun | 105 => 214 | 212 => 219 | 99 => 133 | 165 => 211 | 166 => 96 | 170 => 220 | 169 => 49 | 263 => 223 | 264 => 224 | 206 => 160 | 240 => 87 | 241 => 215 | 276 => 125 | 277 => 221 | n => n, fun | 9 => 9 | 3 => 3 | 4 => 4 | 20 => 20 | 0 => 0 | 46 => 144 | 109 => 226 | 5 => 5 | 72 => 85 | 76 => 127 | 51 => 180 | 146 => 203 | 53 => 168 | 148 => 230 | 70 => 82 | 37 => 83 | 75 => 87 | 127 => 121 | 164 => 154 | 80 => 63 | n => n, fun | n => n⟩
theorem Tryz.lays105 : Go.Proofs.Lays.n105 Tryz.prog Tryz.lays105_ren := {
 mixed := by kernel_rfl
 f99 := Tryz.func133.trans (congrArg some (by kernel_rfl))
 f105 := Tryz.func214.trans (congrArg some (by kernel_rfl))
 f165 := Tryz.func211.trans (congrArg some (by kernel_rfl))
 f166 := Tryz.func96.trans (congrArg some (by kernel_rfl))
 f169 := Tryz.func49.trans (congrArg some (by kernel_rfl))
 f170 := Tryz.func220.trans (congrArg some (by kernel_rfl))
 f206 := Tryz.func160.trans (congrArg some (by kernel_rfl))
 f212 := Tryz.func219.trans (congrArg some (by kernel_rfl))
 f240 := Tryz.func87.trans (congrArg some (by kernel_rfl))
 f241 := Tryz.func215.trans (congrArg some (by kernel_rfl))
 f263 := Tryz.func223.trans (congrArg some (by kernel_rfl))
 f264 := Tryz.func224.trans (congrArg some (by kernel_rfl))
 f276 := Tryz.func125.trans (congrArg some (by kernel_rfl))
 f277 := Tryz.func221.trans (congrArg some (by kernel_rfl))
 t0 := Tryz.underlying0
 a0 := Tryz.isAgg0
 z0 := Tryz.sizeOf0
 v0 := Tryz.zeroValue0
 t3 := Tryz.underlying3
 a3 := Tryz.isAgg3
 z3 := Tryz.sizeOf3
 v3 := Tryz.zeroValue3
 t4 := Tryz.underlying4
 a4 := Tryz.isAgg4
 z4 := Tryz.sizeOf4
 v4 := Tryz.zeroValue4
 t5 := Tryz.underlying5
 a5 := Tryz.isAgg5
 z5 := Tryz.sizeOf5
 v5 := Tryz.zeroValue5
 t9 := Tryz.underlying9
 a9 := Tryz.isAgg9
 z9 := Tryz.sizeOf9
 v9 := Tryz.zeroValue9
 t20 := Tryz.underlying20
 a20 := Tryz.isAgg20
 z20 := Tryz.sizeOf20
 v20 := Tryz.zeroValue20
 t37 := Tryz.underlying83
 a37 := Tryz.isAgg83
 z37 := Tryz.sizeOf83
 v37 := Tryz.zeroValue83
 t46 := Tryz.underlying144
 a46 := Tryz.isAgg144
 z46 := Tryz.sizeOf144
 v46 := Tryz.zeroValue144
 t51 := Tryz.underlying180
 a51 := Tryz.isAgg180
 z51 := Tryz.sizeOf180
 v51 := Tryz.zeroValue180
 t53 := Tryz.underlying168
 a53 := Tryz.isAgg168
 z53 := Tryz.sizeOf168
 v53 := Tryz.zeroValue168
 t70 := Tryz.underlying82
 a70 := Tryz.isAgg82
 z70 := Tryz.sizeOf82
 v70 := Tryz.zeroValue82
 t72 := Tryz.underlying85
 a72 := Tryz.isAgg85
 z72 := Tryz.sizeOf85
 v72 := Tryz.zeroValue85
 t75 := Tryz.underlying87
 a75 := Tryz.isAgg87
 z75 := Tryz.sizeOf87
 v75 := Tryz.zeroValue87
 t76 := Tryz.underlying127
 a76 := Tryz.isAgg127
 z76 := Tryz.sizeOf127
 v76 := Tryz.zeroValue127
 t109 := Tryz.underlying226
 a109 := Tryz.isAgg226
 z109 := Tryz.sizeOf226
 v109 := Tryz.zeroValue226
 t127 := Tryz.underlying121
 a127 := Tryz.isAgg121
 z127 := Tryz.sizeOf121
 v127 := Tryz.zeroValue121
 t146 := Tryz.underlying203
 a146 := Tryz.isAgg203
 z146 := Tryz.sizeOf203
 v146 := Tryz.zeroValue203
 t148 := Tryz.underlying230
 a148 := Tryz.isAgg230
 z148 := Tryz.sizeOf230
 v148 := Tryz.zeroValue230
 t164 := Tryz.underlying154
 a164 := Tryz.isAgg154
 z164 := Tryz.sizeOf154
 v164 := Tryz.zeroValue154 }
theorem Tryz.Builder_Extra_105 : Builder.Extra Tryz.prog Tryz.lays105_ren := {
 sizeBuilder := by kernel_rfl
 liesBuilder := by kernel_rfl
 t5 := Tryz.underlying5
 a5 := Tryz.isAgg5
 z5 := Tryz.sizeOf5
 v5 := Tryz.zeroValue5
 infoByte := by kernel_rfl
 cellsByte := by kernel_rfl
 sizeByte := by kernel_rfl
 neB5 := by decide }
open Go.RowKit Go.Lib in

theorem Tryz.strings_Repeat (s : ByteArray) (c : Nat) (w : World) (hc : c ≤ 9223372036854775807) (hlen : s.size * c ≤ 140737488355328) :
  Calls Tryz.prog 214 #[.string s, .int .i64 c] w fun e w' => e = .returned (.string ⟨(Lib.repeatL s.data.toList c).toArray⟩) ∧ Below w.heap.size w w' := Any.strings_Repeat Tryz.lays105 Tryz.Builder_Extra_105 s c w hc hlen
def Tryz.lays260_ren : Go.Shelf.Ren := ⟨fun | 260 => 170 | n => n, fun | 9 => 9 | 21 => 21 | 3 => 3 | 4 => 4 | 5 => 5 | 119 => 205 | 0 => 0 | 46 => 144 | 139 => 208 | 138 => 207 | n => n, fun | 3 => 5 | 4 => 6 | n => n⟩
theorem Tryz.lays260 : Go.Proofs.Lays.n260 Tryz.prog Tryz.lays260_ren := {
 mixed := by kernel_rfl
 f260 := Tryz.func170.trans (congrArg some (by kernel_rfl))
 t0 := Tryz.underlying0
 a0 := Tryz.isAgg0
 z0 := Tryz.sizeOf0
 v0 := Tryz.zeroValue0
 t3 := Tryz.underlying3
 a3 := Tryz.isAgg3
 z3 := Tryz.sizeOf3
 v3 := Tryz.zeroValue3
 t4 := Tryz.underlying4
 a4 := Tryz.isAgg4
 z4 := Tryz.sizeOf4
 v4 := Tryz.zeroValue4
 t5 := Tryz.underlying5
 a5 := Tryz.isAgg5
 z5 := Tryz.sizeOf5
 v5 := Tryz.zeroValue5
 t9 := Tryz.underlying9
 a9 := Tryz.isAgg9
 z9 := Tryz.sizeOf9
 v9 := Tryz.zeroValue9
 t21 := Tryz.underlying21
 a21 := Tryz.isAgg21
 z21 := Tryz.sizeOf21
 v21 := Tryz.zeroValue21
 t46 := Tryz.underlying144
 a46 := Tryz.isAgg144
 z46 := Tryz.sizeOf144
 v46 := Tryz.zeroValue144
 t119 := Tryz.underlying205
 a119 := Tryz.isAgg205
 z119 := Tryz.sizeOf205
 t138 := Tryz.underlying207
 a138 := Tryz.isAgg207
 z138 := Tryz.sizeOf207
 v138 := Tryz.zeroValue207
 t139 := Tryz.underlying208
 a139 := Tryz.isAgg208
 z139 := Tryz.sizeOf208
 v139 := Tryz.zeroValue208
 g3 := by kernel_rfl
 g4 := by kernel_rfl }
open Go.RowKit Go.Lib in

theorem Tryz.utf8_DecodeRuneInString (s : ByteArray) (w : World) (hT : Lib.Utf8Tabs 5 6 w) :
  Calls Tryz.prog 140 #[.string s] w fun e w' => e = .returned (.tuple #[.int .i32 (Lib.decodeGo s).1, .int .i64 (Lib.decodeGo s).2]) ∧ Below w.heap.size w w' := Any.utf8_DecodeRuneInString Tryz.lays197 s w hT
def Tryz.lays229_ren : Go.Shelf.Ren := ⟨fun | 229 => 54 | n => n, fun | 9 => 9 | 40 => 97 | 31 => 48 | 152 => 124 | 3 => 3 | 0 => 0 | 4 => 4 | 21 => 21 | 154 => 126 | n => n, fun | n => n⟩
theorem Tryz.lays229 : Go.Proofs.Lays.n229 Tryz.prog Tryz.lays229_ren := {
 mixed := by kernel_rfl
 f229 := Tryz.func54.trans (congrArg some (by kernel_rfl))
 t0 := Tryz.underlying0
 a0 := Tryz.isAgg0
 z0 := Tryz.sizeOf0
 v0 := Tryz.zeroValue0
 t3 := Tryz.underlying3
 a3 := Tryz.isAgg3
 z3 := Tryz.sizeOf3
 v3 := Tryz.zeroValue3
 t4 := Tryz.underlying4
 a4 := Tryz.isAgg4
 z4 := Tryz.sizeOf4
 v4 := Tryz.zeroValue4
 t9 := Tryz.underlying9
 a9 := Tryz.isAgg9
 z9 := Tryz.sizeOf9
 v9 := Tryz.zeroValue9
 t21 := Tryz.underlying21
 a21 := Tryz.isAgg21
 z21 := Tryz.sizeOf21
 v21 := Tryz.zeroValue21
 t31 := Tryz.underlying48
 a31 := Tryz.isAgg48
 z31 := Tryz.sizeOf48
 v31 := Tryz.zeroValue48
 t40 := Tryz.underlying97
 a40 := Tryz.isAgg97
 z40 := Tryz.sizeOf97
 v40 := Tryz.zeroValue97
 t152 := Tryz.underlying124
 a152 := Tryz.isAgg124
 z152 := Tryz.sizeOf124
 v152 := Tryz.zeroValue124
 t154 := Tryz.underlying126
 a154 := Tryz.isAgg126
 z154 := Tryz.sizeOf126
 v154 := Tryz.zeroValue126 }
open Go.RowKit Go.Lib in

theorem Tryz.strings_FieldsFunc (g : Nat) (lb : Array Value) (eg : ∀ args w, (callFunc g args).run Tryz.prog w = .ok (.enter g args) w) (p : Nat → Bool) (s : ByteArray) (w : World) (hs : s.size ≤ 4294967296) (hp : PredAt Tryz.prog g lb encR p w) :
  Calls Tryz.prog 54 #[.string s, .func (.func g) #[] lb] w fun e w' => ∃ A, e = .returned (.slice (some ⟨A, 0, none⟩) (Lib.goFieldsP p s).length (Lib.goFieldsP p s).length) ∧ w.heap.size ≤ A ∧
   w'.ownsRow w.heap.size 9 1 (.slice (some ⟨A, 0, none⟩) (Lib.goFieldsP p s).length (Lib.goFieldsP p s).length) (Lib.goFieldsP p s).length ((Lib.goFieldsP p s).map Value.string) ∧ Below w.heap.size w w' := Any.strings_FieldsFunc Tryz.lays229 g lb eg p s w hs hp (by kernel_rfl) (by kernel_rfl)
end Go.Proofs
namespace Go.Proofs.YtcndmhpeolbepaaGreatDoor.Fn
def glyph_Fold.f (a0 : ByteArray) : Option ByteArray := if a0.size ≤ 35184372088832 then some (Pl.str (Pl.fold a0.data.toList)) else none
set_option maxHeartbeats 2000000 in
set_option maxRecDepth 100000 in
theorem glyph_Fold.calls (a0 : ByteArray) (r : ByteArray) (w : World) (h : glyph_Fold.f a0 = some r) :
  Calls Tryz.prog 18 #[.string a0] w fun e w' => e = .returned (.string r) ∧ Below w.heap.size w w' := by
 unfold glyph_Fold.f at h
 by_cases hs : a0.size ≤ 35184372088832
 ·rw [if_pos hs] at h
  have HR := hid (Option.some.inj h)
  clear h
  go_enter Tryz.func18, Tryz.ntmps18
  go_wp2
  go_loopw [8] (fun v8 wr => ∃ k : Nat, k ≤ a0.size ∧ v8 = .int .i64 k ∧ isBd w.heap.size w.heap.size (Lib.byteCells (Pl.fold (a0.data.toList.take k))) wr ∧ Below w.heap.size w wr) (fun v8 _ => a0.size - (intOf v8).toNat)
  case atStart => exact ⟨0, Nat.zero_le _, rfl, Lib.IsBuilderF.of (Lib.fresh_isBuilder _ _ w), (Below.refl _ w).alloc (Nat.le_refl _) _⟩
  case round =>
   obtain ⟨k, hk, rfl, hI, hbw⟩ := hrel
   have hl : (Pl.fold (a0.data.toList.take k)).length ≤ k := by rw [Pl.fold_length]; exact List.length_take_le _ _
   have hBw := hbw.size
   by_cases hlt : k < a0.size
   ·have hsn := hid (Pl.fold_snoc a0 k hlt)
    have hgo : ∀ c : Int, c = (Pl.foldB a0[k]).toNat → Lib.byteCells (Pl.fold (a0.data.toList.take k)) ++ [Value.int .u8 c] = Lib.byteCells (Pl.fold (a0.data.toList.take (k + 1))) := by
     rintro c rfl
     rw [hsn.out, Lib.byteCells_append]
     rfl
    have HG := hid hgo
    clear hgo
    by_cases hu : 65 ≤ (a0[k].toNat : Int) ∧ (a0[k].toNat : Int) ≤ 90
    ·have hc := hid (Pl.foldB_up a0[k] hu)
     obtain ⟨hu1, hu2⟩ := hu
     go_wp2_with (go_at_call 48; refine (bd_byte w.heap.size w.heap.size _ _ _ hI (by rw [Lib.byteCells_length]; omega) hBw).mono ?_; rintro e W1 ⟨rfl, h1, b1, _⟩; rw [HG.out _ hc.out] at h1)
     go_roundw
     case rel => exact ⟨k + 1, by omega, by go_num, h1.is, hbw.trans b1⟩
     case measure => simp [intOf]; omega
    have hc := hid (Pl.foldB_no a0[k] hu)
    by_cases hu1 : 65 ≤ (a0[k].toNat : Int)
    ·have hu2 : 90 < (a0[k].toNat : Int) := by omega
     clear hu
     go_wp2_with (go_at_call 48; refine (bd_byte w.heap.size w.heap.size _ _ _ hI (by rw [Lib.byteCells_length]; omega) hBw).mono ?_; rintro e W1 ⟨rfl, h1, b1, _⟩; rw [HG.out _ hc.out] at h1)
     go_roundw
     case rel => exact ⟨k + 1, by omega, by go_num, h1.is, hbw.trans b1⟩
     case measure => simp [intOf]; omega
    have hu2 : (a0[k].toNat : Int) < 65 := by omega
    clear hu hu1
    go_wp2_with (go_at_call 48; refine (bd_byte w.heap.size w.heap.size _ _ _ hI (by rw [Lib.byteCells_length]; omega) hBw).mono ?_; rintro e W1 ⟨rfl, h1, b1, _⟩; rw [HG.out _ hc.out] at h1)
    go_roundw
    case rel => exact ⟨k + 1, by omega, by go_num, h1.is, hbw.trans b1⟩
    case measure => simp [intOf]; omega
   have hend := hid (show Pl.fold (a0.data.toList.take k) = Pl.fold a0.data.toList by rw [List.take_of_length_le (by rw [Pl.data_length]; omega)])
   go_wp2_with (go_at_call 49; refine (Tryz.Builder_String_any_k w.heap.size w.heap.size _ _ hI hBw).mono ?_; rintro e W1 ⟨rfl, _, b1, _⟩)
   go_ret
   exact ⟨by rw [← HR.out, ← hend.out]; rfl, hbw.trans b1⟩
 rw [if_neg hs] at h
 exact absurd h (by simp)
theorem bd_below {B b : Nat} {l : List Value} {W W' : World} (h : isBd B b l W) (hb : Below W.heap.size W W') : isBd B b l W' := by
 rcases h with h | h
 ·refine .inl ?_
  have hl := h.lt
  obtain ⟨h1, v, h2, h3, h4⟩ := h
  exact ⟨h1, v, (hb.block b hl).trans h2, h3.kept (row := none) ⟨hb.os, hb.tape, hb.output, hb.size, fun k hk _ => hb.block k hk⟩ (Classical.em _), h4⟩
 refine .inr ?_
 have hl := h.lt
 obtain ⟨h1, v, h2, h3, h4⟩ := h
 exact ⟨h1, v, (hb.block b hl).trans h2, h3.kept (row := none) ⟨hb.os, hb.tape, hb.output, hb.size, fun k hk _ => hb.block k hk⟩ (Classical.em _), h4⟩
theorem bd_lt {B b : Nat} {l : List Value} {W : World} (h : isBd B b l W) : b < W.heap.size := by
 rcases h with h | h <;> exact h.lt
def strLen : Value → Nat | .string s => s.size | _ => 0
theorem toList_ne {s : ByteArray} (h : s.toList = ([] : List UInt8)) : (s.toList == ([] : List UInt8)) = true ∧ (s.toList != ([] : List UInt8)) = false := ⟨beq_iff_eq.mpr h, bne_eq_false_iff_eq.mpr h⟩
theorem toList_ne' {s : ByteArray} (h : ¬ s.toList = ([] : List UInt8)) : (s.toList == ([] : List UInt8)) = false ∧ (s.toList != ([] : List UInt8)) = true := ⟨beq_eq_false_iff_ne.mpr h, bne_iff_ne.mpr h⟩
def strings_Repeat.f (a0 : ByteArray) (a1 : Int) : Option ByteArray := if 0 ≤ a1 ∧ a1 ≤ 1000000 ∧ a0.size ≤ 1000000 then some (Pl.str (Lib.repeatL a0.data.toList a1.toNat)) else none
theorem strings_Repeat.calls (a0 : ByteArray) (a1 : Int) (r : ByteArray) (w : World) (h : strings_Repeat.f a0 a1 = some r) :
  Calls Tryz.prog 214 #[.string a0, .int .i64 a1] w fun e w' => e = .returned (.string r) ∧ Below w.heap.size w w' := by
 unfold strings_Repeat.f at h
 by_cases hs : 0 ≤ a1 ∧ a1 ≤ 1000000 ∧ a0.size ≤ 1000000
 ·rw [if_pos hs] at h
  have HR := Option.some.inj h
  subst HR
  obtain ⟨n, rfl⟩ : ∃ n : Nat, a1 = n := ⟨a1.toNat, by omega⟩
  have h1 : a0.size * n ≤ 1000000 * 1000000 := Nat.mul_le_mul (by omega) (by omega)
  exact Tryz.strings_Repeat a0 n w (by omega) (by omega)
 rw [if_neg hs] at h; exact absurd h (by simp)
def strings_IndexByte.f (a0 : ByteArray) (a1 : Int) : Option Int := some (Lib.indexByte a0.data.toList a1.toNat.toUInt8)
theorem strings_IndexByte.calls (a0 : ByteArray) (a1 : Int) (r : Int) (w : World) (h : strings_IndexByte.f a0 a1 = some r) :
  Calls Tryz.prog 172 #[.string a0, .int .u8 a1] w fun e w' => e = .returned (.int .i64 r) ∧ Drawn0 w w' := by
 unfold strings_IndexByte.f at h
 have HR := Option.some.inj h
 subst HR
 refine (Tryz.strings_IndexByte a0 a1 w).mono ?_
 rintro e w' ⟨rfl, rfl⟩
 exact ⟨rfl, Drawn0.refl _⟩
def strings_TrimRight.f (a0 a1 : ByteArray) : Option ByteArray :=
 if a0.size ≤ 140737488355328 then (if a1.size ≤ 1000 then (if a1.data.toList.all (fun b => decide (b.toNat < 128)) = true then some (Pl.str (Lib.trimRightS a0.data.toList a1.data.toList)) else none) else none) else none
theorem strings_TrimRight.calls (a0 a1 r : ByteArray) (w : World) (h : strings_TrimRight.f a0 a1 = some r) :
  Calls Tryz.prog 60 #[.string a0, .string a1] w fun e w' => e = .returned (.string r) ∧ Below w.heap.size w w' := by
 unfold strings_TrimRight.f at h
 by_cases hs : a0.size ≤ 140737488355328
 ·rw [if_pos hs] at h
  by_cases hc : a1.size ≤ 1000
  ·rw [if_pos hc] at h
   by_cases ha : a1.data.toList.all (fun b => decide (b.toNat < 128)) = true
   ·rw [if_pos ha] at h
    have HR := Option.some.inj h
    subst HR
    exact Any.strings_TrimRight_laid Tryz.lays162 (by kernel_rfl) a0 a1 w (by omega) (by omega) (ascii_of_all ha)
   rw [if_neg ha] at h; exact absurd h (by simp)
  rw [if_neg hc] at h; exact absurd h (by simp)
 rw [if_neg hs] at h; exact absurd h (by simp)
set_option maxHeartbeats 4000000 in
set_option maxRecDepth 100000 in
theorem bd_rune (B b : Nat) (bs : List Value) (r : Int) (hr0 : -2147483648 ≤ r) (hr1 : r ≤ 2147483647) (w : World) (h : isBd B b bs w) (hlen : bs.length + 4 ≤ 140737488355328) (hBw : B ≤ w.heap.size) :
  Calls Tryz.prog 94 #[.pointer (some ⟨b, 0, none⟩), .int .i32 r] w fun e w' => e = .returned (.tuple #[.int .i64 (Lib.runeCells r).length, .nilIface]) ∧ bdAt B b (bs ++ Lib.runeCells r) w' ∧ Below B w w' ∧ kept b w w' := by
 have hk4 := Lib.runeCells_le r
 go_enter Tryz.func94, Tryz.ntmps94
 go_wp2_with (go_at_call 87; refine (bd_check B b bs _ h).mono ?_)
 rintro e w1 ⟨rfl, h1, hb1, hk1⟩
 obtain ⟨hB, v, hbk, hown, hne⟩ := h1
 obtain ⟨ao, cap, rfl⟩ : ∃ ao cap, v = .slice ao bs.length cap := by
  rcases hown.2 with ⟨hv, h0⟩ | ⟨g, cap, cur, fz, hv, _⟩
  ·exact ⟨none, 0, by rw [hv, h0]⟩
  exact ⟨_, _, hv⟩
 have c0 : w1.cell? ⟨b, 0, none⟩ = some (.pointer (some ⟨b, 0, none⟩)) := by rw [Lib.cell_of_heap hbk]; rfl
 have c1 : w1.cell? ⟨b, 1, none⟩ = some (.slice ao bs.length cap) := by rw [Lib.cell_of_heap hbk]; rfl
 go_wp2_with (go_at_call 129; refine (Tryz.utf8_AppendRune_row B _ bs.length bs r hr0 hr1 _ hown hlen (by have := hb1.size; omega)).mono ?_)
 rintro e w2 ⟨v', rfl, hown', o, hgrow⟩
 have hlt : b < w1.heap.size := by
  rcases Nat.lt_or_ge b w1.heap.size with h' | h'
  ·exact h'
  simp [Array.getElem?_eq_none h'] at hbk
 have hb2 : w2.heap[b]? = some (.cells #[.pointer (some ⟨b, 0, none⟩), .slice ao bs.length cap] 85 (0, 0)) := by
  rw [hgrow.block b (by simp; omega) (fun e => hne e.symm), Lib.alloc_old w1 _ b hlt]
  exact hbk
 have d0 : w2.cell? ⟨b, 0, none⟩ = some (.pointer (some ⟨b, 0, none⟩)) := by rw [Lib.cell_of_heap hb2]; rfl
 have d1 : w2.cell? ⟨b, 1, none⟩ = some (.slice ao bs.length cap) := by rw [Lib.cell_of_heap hb2]; rfl
 have f1 : w2.frozen? ⟨b, 1, none⟩ = false := Lib.frozen_of_heap hb2 1
 obtain ⟨g, cap', rfl⟩ : ∃ g cap', v' = .slice (some ⟨g, 0, none⟩) (bs.length + (Lib.runeCells r).length) cap' := by
  rcases hown'.2 with ⟨_, h0⟩ | ⟨g, cap', cur, fz, hv, _⟩
  ·omega
  exact ⟨g, cap', hv⟩
 go_wp2
 go_ret2
 refine ⟨?_, ?_, ?_, ((hk1.alloc _).grown hgrow (Lib.ownsRowF_kind (hown.alloc _))).setCell ⟨b, 1, none⟩ rfl _⟩
 ·have e : ((bs.length : Int) + ((Lib.runeCells r).length : Int) - (bs.length : Int)) = ((Lib.runeCells r).length : Int) := by omega
  simp [e]
 ·exact Lib.BuilderAtF.put (T := 85) (e := 5) hB hb2 (bs' := bs ++ Lib.runeCells r) (by simpa using hown') (by decide)
 exact ((hb1.alloc (by have := hb1.size; omega) _).grown hgrow (by have := hb1.size; simp; omega) (fun k hk => (hown.lt k hk).1)).setCell (p := ⟨b, 1, none⟩) hB _
def strings_TrimLeft.f (a0 a1 : ByteArray) : Option ByteArray :=
 if a0.size ≤ 140737488355328 then (if a1.size ≤ 1000 then (if a1.data.toList.all (fun b => decide (b.toNat < 128)) = true then some (Pl.str (Lib.trimLeftS a0.data.toList a1.data.toList)) else none) else none) else none
theorem strings_TrimLeft.calls (a0 a1 r : ByteArray) (w : World) (h : strings_TrimLeft.f a0 a1 = some r) :
  Calls Tryz.prog 97 #[.string a0, .string a1] w fun e w' => e = .returned (.string r) ∧ Below w.heap.size w w' := by
 unfold strings_TrimLeft.f at h
 by_cases hs : a0.size ≤ 140737488355328
 ·rw [if_pos hs] at h
  by_cases hc : a1.size ≤ 1000
  ·rw [if_pos hc] at h
   by_cases ha : a1.data.toList.all (fun b => decide (b.toNat < 128)) = true
   ·rw [if_pos ha] at h
    have HR := Option.some.inj h
    subst HR
    exact Any.strings_TrimLeft_laid Tryz.lays161 (by kernel_rfl) a0 a1 w (by omega) (ascii_of_all ha)
   rw [if_neg ha] at h; exact absurd h (by simp)
  rw [if_neg hc] at h; exact absurd h (by simp)
 rw [if_neg hs] at h; exact absurd h (by simp)
def glyph_Clean.f (a0 : ByteArray) : Option ByteArray := if a0.size ≤ 35184372088832 then some (Pl.str (Pl.clean a0)) else none
theorem glyph_control_is (r : Nat) : glyph_control.f (r : Int) = some (Pl.control r) := by
 unfold glyph_control.f Pl.control
 by_cases h1 : (r : Int) < 32
 ·rw [if_pos h1]
  simp [show r < 32 by omega]
 rw [if_neg h1]
 by_cases h2 : (r : Int) ≥ 127
 ·rw [if_pos h2]
  simp [show ¬ r < 32 by omega, show 127 ≤ r by omega]
  omega
 rw [if_neg h2]
 simp [show ¬ r < 32 by omega, show ¬ 127 ≤ r by omega]
set_option maxHeartbeats 4000000 in
set_option maxRecDepth 100000 in
theorem glyph_Clean.calls (a0 : ByteArray) (r : ByteArray) (w : World) (h : glyph_Clean.f a0 = some r) :
  Calls Tryz.prog 56 #[.string a0] w fun e w' => e = .returned (.string r) ∧ Below w.heap.size w w' := by
 unfold glyph_Clean.f at h
 by_cases hs : a0.size ≤ 35184372088832
 ·rw [if_pos hs] at h
  have HR := hid (Option.some.inj h)
  clear h
  go_enter Tryz.func56, Tryz.ntmps56
  go_wp2
  go_loopw [] (fun wr => ∃ (pos fuel : Nat) (acc : List UInt8), isBd w.heap.size w.heap.size (Lib.byteCells acc) wr ∧ wr.heap[w.heap.size + 1]? = some (.stringIter a0 pos) ∧ Below w.heap.size w wr ∧ Hid (acc ++ Pl.cleanFrom a0 fuel pos = Pl.clean a0) ∧ a0.size ≤ pos + fuel ∧ acc.length ≤ 4 * pos) (fun wr => a0.size - wr.iterPos (w.heap.size + 1))
  case atStart =>
   refine ⟨0, a0.size, [], (Lib.IsBuilderF.of (Lib.fresh_isBuilder _ _ w)).alloc _, ?_, ((Below.refl _ w).alloc (Nat.le_refl _) _).alloc (by simp) _, rfl, by omega, by simp⟩
   have := World.iter_heap (w.alloc (.cells #[.pointer none, .slice none 0 0] 85)) a0 0
   simpa using this
  case round =>
   obtain ⟨pos, fuel, acc, hI, hit, hbw, hacc, hfu, hal⟩ := hrel
   have hsz : w.heap.size + 1 < wr.heap.size := (Array.getElem?_eq_some_iff.1 hit).1
   by_cases hp : pos < a0.size
   ·have hnx : ∀ ty, (Instr.next (.pointer (some ⟨w.heap.size + 1, 0, none⟩)) true ty).run Tryz.prog wr = _ := fun ty => Lib.run_next_any_at wr (w.heap.size + 1) a0 pos ty hit hp
    have hwd : 1 ≤ (Utf8.decode a0 pos).2 := Pl.width_pos a0 pos hp
    have hd1 := decode_le a0 pos
    have hI2 := hI.iterAt hit (pos + (Utf8.decode a0 pos).2)
    have hit2 := Lib.iterAt_heap wr (w.heap.size + 1) a0 pos (pos + (Utf8.decode a0 pos).2) hit
    have hbw2 := Lib.below_iterAt hbw (k := w.heap.size + 1) (by omega) a0 (pos + (Utf8.decode a0 pos).2)
    have hsz2 : w.heap.size ≤ (wr.iterAt (w.heap.size + 1) a0 (pos + (Utf8.decode a0 pos).2)).heap.size := by rw [Lib.iterAt_size]; omega
    obtain ⟨f, rfl⟩ : ∃ f, fuel = f + 1 := ⟨fuel - 1, by omega⟩
    have hct := glyph_control_is (Utf8.decode a0 pos).1
    cases hc : Pl.control (Utf8.decode a0 pos).1 with
    | true =>
     have hstep : Hid (Pl.cleanFrom a0 (f + 1) pos = [32] ++ Pl.cleanFrom a0 f (pos + (Utf8.decode a0 pos).2)) := by
      show _ = _
      simp [Pl.cleanFrom, hp, Pl.cleanR, Pl.sign, Pl.width, hc]
     rw [hc] at hct
     have HC := hid hct
     clear hct hc
     go_wp2_with (first | (go_at_call 93; refine (glyph_control.calls _ true _ HC.out).mono ?_; rintro e W0 ⟨rfl, ⟨⟨n0, rfl⟩⟩⟩) | (go_at_call 94; refine (bd_rune w.heap.size w.heap.size _ _ (by omega) (by omega) _ (by exact hI2) (by rw [Lib.byteCells_length]; omega) (by exact hsz2)).mono ?_; rintro e W1 ⟨rfl, h1, b1, k1⟩))
     go_roundw
     case rel =>
      refine ⟨pos + (Utf8.decode a0 pos).2, f, acc ++ [32], ?_, k1.iter hit2 (by omega), (pw_below_drewN hbw2 _).trans b1, ?_, by omega, by simp; omega⟩
      ·rw [Lib.byteCells_append]; exact Or.inr h1
      show _ = _
      rw [← hacc.out, hstep.out]; simp
     case measure =>
      simp only [World.iterPos, k1.iter hit2 (by omega), hit]
      omega
    | false =>
     have hstep : Hid (Pl.cleanFrom a0 (f + 1) pos = Lib.encodeRune (Utf8.decode a0 pos).1 ++ Pl.cleanFrom a0 f (pos + (Utf8.decode a0 pos).2)) := by
      show _ = _
      simp [Pl.cleanFrom, hp, Pl.cleanR, Pl.sign, Pl.width, hc]
     rw [hc] at hct
     have HC := hid hct
     clear hct hc
     go_wp2_with (first | (go_at_call 93; refine (glyph_control.calls _ false _ HC.out).mono ?_; rintro e W0 ⟨rfl, ⟨⟨n0, rfl⟩⟩⟩) | (go_at_call 94; refine (bd_rune w.heap.size w.heap.size _ _ (by omega) (by omega) _ (by exact hI2) (by rw [Lib.byteCells_length]; omega) (by exact hsz2)).mono ?_; rintro e W1 ⟨rfl, h1, b1, k1⟩))
     go_roundw
     case rel =>
      have hl4 := Lib.runeCells_le ((Utf8.decode a0 pos).1 : Int)
      rw [Lib.runeCells_length] at hl4
      refine ⟨pos + (Utf8.decode a0 pos).2, f, acc ++ Lib.encodeRune (Utf8.decode a0 pos).1, ?_, k1.iter hit2 (by omega), (pw_below_drewN hbw2 _).trans b1, ?_, by omega, by simp; omega⟩
      ·rw [Lib.byteCells_append, Lib.byteCells_encodeRune]; exact Or.inr h1
      show _ = _
      rw [← hacc.out, hstep.out]; simp
     case measure =>
      simp only [World.iterPos, k1.iter hit2 (by omega), hit]
      omega
   have hnx : ∀ ty, (Instr.next (.pointer (some ⟨w.heap.size + 1, 0, none⟩)) true ty).run Tryz.prog wr = _ := fun ty => Lib.run_next_end_at wr (w.heap.size + 1) a0 pos ty hit hp
   have hend := hid (Pl.cleanFrom_end a0 fuel pos hp)
   go_wp2_with (go_at_call 49; refine (Tryz.Builder_String_any_k w.heap.size w.heap.size acc _ hI (by omega)).mono ?_; rintro e W1 ⟨rfl, _, b1, _⟩)
   go_ret
   refine ⟨?_, hbw.trans b1⟩
   rw [← HR.out, ← hacc.out, hend.out, List.append_nil]
   rfl
 rw [if_neg hs] at h
 exact absurd h (by simp)
def strings_Join.f (l0 : List ByteArray) (a1 : ByteArray) : Option ByteArray :=
 if l0.length ≤ 140737488355328 then (if (Pl.join l0 a1).size ≤ 140737488355328 then some (Pl.join l0 a1) else none) else none
theorem strings_Join.calls (A0 : Option Addr) (c0 : Nat) (l0 : List ByteArray) (a1 : ByteArray) (r : ByteArray) (w : World) (hr0 : Kd.C Kd.string w A0 l0.length l0) (hc0 : l0.length ≤ c0) (h : strings_Join.f l0 a1 = some r) :
  Calls Tryz.prog 203 #[.slice A0 l0.length c0, .string a1] w fun e w' => e = .returned (.string r) ∧ Below w.heap.size w w' := by
 unfold strings_Join.f at h
 by_cases hs : l0.length ≤ 140737488355328
 ·rw [if_pos hs] at h
  by_cases hn : (Pl.join l0 a1).size ≤ 140737488355328
  ·rw [if_pos hn] at h
   have HR := Option.some.inj h
   clear h
   subst HR
   by_cases h0 : l0.length = 0
   ·have e0 : l0 = [] := List.eq_nil_of_length_eq_zero h0
    subst e0
    refine (Tryz.strings_Join_none A0 c0 a1 w).mono ?_
    rintro e w' ⟨rfl, rfl⟩
    exact ⟨rfl, Below.refl _ _⟩
   obtain ⟨bk, o, rfl, hbk, hcells⟩ := strings_at hr0 (by omega)
   exact Tryz.strings_Join bk o c0 l0 a1 w hcells hbk hs hc0 (by have e := Pl.str_size (Lib.join (l0.map fun x => x.data.toList) a1.data.toList); unfold Pl.join at hn; omega)
  rw [if_neg hn] at h
  exact absurd h (by simp)
 rw [if_neg hs] at h
 exact absurd h (by simp)
/-! strings.IndexRune of a blank text at a sign beyond ASCII: -1. -/
theorem blank_decode0 : Utf8.decode ⟨#[32, 9]⟩ 0 = (32, 1) := by decide
theorem blank_decode1 : Utf8.decode ⟨#[32, 9]⟩ 1 = (9, 1) := by decide
theorem enc_two (r : Nat) (h1 : 128 ≤ r) (h2 : r < 2048) : Utf8.encode (r : Int) = ⟨#[UInt8.ofNat (192 + r / 64), UInt8.ofNat (128 + r % 64)]⟩ := by
 have hv : Utf8.valid (r : Int) = true := by unfold Utf8.valid; simp; omega
 unfold Utf8.encode
 simp only [hv, if_true, Int.toNat_natCast]
 rw [if_neg (by omega), if_pos (by omega)]
theorem enc_more (r : Nat) (h1 : 2048 ≤ r) : 3 ≤ (Utf8.encode (r : Int)).size ∧ (Utf8.encode (r : Int)).size ≤ 4 := by
 unfold Utf8.encode
 by_cases hv : Utf8.valid (r : Int) = true
 ·simp only [hv, if_true, Int.toNat_natCast]
  rw [if_neg (by omega), if_neg (by omega)]
  split
  ·exact ⟨by show 3 ≤ 3; omega, by show 3 ≤ 4; omega⟩
  exact ⟨by show 3 ≤ 4; omega, by show 4 ≤ 4; omega⟩
 simp only [hv]
 exact ⟨by show 3 ≤ 3; omega, by show 3 ≤ 4; omega⟩
set_option maxHeartbeats 4000000 in
set_option maxRecDepth 100000 in
theorem indexRune_bad (w : World) :
  Calls Tryz.prog 169 #[.string ⟨#[32, 9]⟩, .int .i32 65533] w fun e w' => e = .returned (.int .i64 (-1)) ∧ Below w.heap.size w w' := by
 go_enter Tryz.func169, Tryz.ntmps169
 go_wp2
 go_loopw [] (fun wr => ∃ (pos : Nat), pos ≤ 2 ∧ wr.heap[w.heap.size]? = some (.stringIter ⟨#[32, 9]⟩ pos) ∧ Below w.heap.size w wr) (fun wr => 2 - wr.iterPos w.heap.size)
 case atStart =>
  refine ⟨0, by omega, ?_, (Below.refl _ w).alloc (by simp) _⟩
  have := World.iter_heap w ⟨#[32, 9]⟩ 0
  simpa using this
 case round =>
  obtain ⟨pos, hp2, hit, hbw⟩ := hrel
  have hsz : w.heap.size < wr.heap.size := (Array.getElem?_eq_some_iff.1 hit).1
  rcases (show pos = 0 ∨ pos = 1 ∨ pos = 2 by omega) with rfl | rfl | rfl
  ·have hnx : ∀ ty, (Instr.next (.pointer (some ⟨w.heap.size, 0, none⟩)) true ty).run Tryz.prog wr = _ := fun ty => Lib.run_next_any_at wr w.heap.size ⟨#[32, 9]⟩ 0 ty hit (by decide)
   rw [blank_decode0] at hnx
   have hit2 := Lib.iterAt_heap wr w.heap.size ⟨#[32, 9]⟩ 0 (0 + 1) hit
   have hbw2 := Lib.below_iterAt hbw (k := w.heap.size) (by omega) ⟨#[32, 9]⟩ (0 + 1)
   go_wp2
   go_roundw
   case rel => exact ⟨1, by omega, hit2, hbw2⟩
   case measure => simp only [World.iterPos, hit2, hit]; omega
  ·have hnx : ∀ ty, (Instr.next (.pointer (some ⟨w.heap.size, 0, none⟩)) true ty).run Tryz.prog wr = _ := fun ty => Lib.run_next_any_at wr w.heap.size ⟨#[32, 9]⟩ 1 ty hit (by decide)
   rw [blank_decode1] at hnx
   have hit2 := Lib.iterAt_heap wr w.heap.size ⟨#[32, 9]⟩ 1 (1 + 1) hit
   have hbw2 := Lib.below_iterAt hbw (k := w.heap.size) (by omega) ⟨#[32, 9]⟩ (1 + 1)
   go_wp2
   go_roundw
   case rel => exact ⟨2, by omega, hit2, hbw2⟩
   case measure => simp only [World.iterPos, hit2, hit]; omega
  have hnx : ∀ ty, (Instr.next (.pointer (some ⟨w.heap.size, 0, none⟩)) true ty).run Tryz.prog wr = _ := fun ty => Lib.run_next_end_at wr w.heap.size ⟨#[32, 9]⟩ 2 ty hit (by decide)
  go_wp2
  go_ret
  exact ⟨rfl, hbw⟩
set_option maxHeartbeats 4000000 in
set_option maxRecDepth 1000000 in
theorem indexRune_more (r : Nat) (w : World) (h1 : 2048 ≤ r) (h2 : r ≤ 1114111) (h3 : r < 55296 ∨ 57344 ≤ r) (h4 : r ≠ 65533) :
  Calls Tryz.prog 169 #[.string ⟨#[32, 9]⟩, .int .i32 r] w fun e w' => e = .returned (.int .i64 (-1)) ∧ Below w.heap.size w w' := by
 obtain ⟨g1, g2⟩ := enc_more r h1
 have e1 : ((0 : Int) ≤ (r : Int)) = True := eq_true (by omega)
 have e2 : ((r : Int) < 128) = False := eq_false (by omega)
 have e3 : ((r : Int) == 65533) = false := beq_eq_false_iff_ne.2 (by omega)
 have e4 : Lib.validRune (r : Int) = true := by unfold Lib.validRune; simp; omega
 have e5 : decide ((r : Int) < 128) = false := decide_eq_false (by omega)
 have e6 : decide ((0 : Int) ≤ (r : Int)) = true := decide_eq_true (by omega)
 go_enter Tryz.func169, Tryz.ntmps169
 have e7 : (Utf8.encode (r : Int)).size ≤ maxLen := by unfold maxLen; omega
 have e8 : wrap64 (((Utf8.encode (r : Int)).size : Int) - 1) = ((Utf8.encode (r : Int)).size : Int) - 1 := by unfold wrap64; omega
 go_wp2_with (go_at_call 195; refine (Tryz.utf8_ValidRune _ _).mono ?_; rintro e W1 ⟨rfl, rfl⟩; rw [e4])
 go_step3
 go_wp2
 go_loopw [9] (fun v9 wr => v9 = .int .i64 (((Utf8.encode (r : Int)).size : Int) - 1) ∧ wr = W1) (fun v9 wr => 0)
 case atStart => exact ⟨rfl, rfl⟩
 case round =>
  obtain ⟨rfl, rfl⟩ := hrel
  have e9 : decide ((((Utf8.encode (r : Int)).size : Int) - 1) < 2) = false := decide_eq_false (by omega)
  go_wp2
  (try rw [Exit.noGoto_exit])
  go_wp2
  (try rw [Exit.noGoto_ret])
  go_ret
  exact ⟨rfl, Below.refl _ _⟩
set_option maxHeartbeats 4000000 in
set_option maxRecDepth 1000000 in
theorem indexRune_two (r : Nat) (w : World) (h1 : 128 ≤ r) (h2 : r < 2048) :
  Calls Tryz.prog 169 #[.string ⟨#[32, 9]⟩, .int .i32 r] w fun e w' => e = .returned (.int .i64 (-1)) ∧ Below w.heap.size w w' := by
 have HE := hid (enc_two r h1 h2)
 obtain ⟨b, hb⟩ : ∃ b : UInt8, UInt8.ofNat (128 + r % 64) = b := ⟨_, rfl⟩
 obtain ⟨c, hc⟩ : ∃ c : UInt8, UInt8.ofNat (192 + r / 64) = c := ⟨_, rfl⟩
 have hbn : b.toNat = 128 + r % 64 := by rw [← hb]; simp; omega
 rw [hb, hc] at HE
 have e3 : ((r : Int) == 65533) = false := beq_eq_false_iff_ne.2 (by omega)
 have e4 : Lib.validRune (r : Int) = true := by unfold Lib.validRune; simp; omega
 have e5 : decide ((r : Int) < 128) = false := decide_eq_false (by omega)
 have e6 : decide ((0 : Int) ≤ (r : Int)) = true := decide_eq_true (by omega)
 have e10 : (9 != (b.toNat : Int)) = true := by rw [bne_iff_ne]; omega
 have e8 : wrap64 (((⟨#[c, b]⟩ : ByteArray).size : Int) - 1) = 1 := by show wrap64 (((2 : Nat) : Int) - 1) = 1; unfold wrap64; omega
 have e11 : Lib.indexByte [] (b.toNat : Int).toNat.toUInt8 = -1 := rfl
 go_enter Tryz.func169, Tryz.ntmps169
 go_wp2_with (go_at_call 195; refine (Tryz.utf8_ValidRune _ _).mono ?_; rintro e W1 ⟨rfl, rfl⟩; rw [e4])
 go_step3
 go_wp2
 rw [HE.out]
 simp only [e8]
 go_loopw [9] (fun v9 wr => v9 = .int .i64 1 ∧ wr = W1) (fun v9 wr => 0)
 case atStart => exact ⟨rfl, rfl⟩
 case round =>
  obtain ⟨rfl, rfl⟩ := hrel
  go_wp2
  go_step3
  go_wp2
  go_quiet (fail)
  simp only [show ((((⟨#[32, 9]⟩ : ByteArray)[1]'(by decide)).toNat : Int) != (((⟨#[c, b]⟩ : ByteArray)[1]'(by show 1 < 2; decide)).toNat : Int)) = true from e10]
  go_wp2
  have hB3 := pw_below_drewN (Below.refl wr.heap.size wr) nq
  generalize wr.drewN nq = W3 at hB3 ⊢
  have e12 : IntKind.i64.wrap 2 = 2 := by decide
  have e13 : ((2 : Int) ≤ ((⟨#[32, 9]⟩ : ByteArray).size : Int)) = True := eq_true (by decide)
  go_quiet (first | (go_at_call 172; refine Calls.quiet_of_same (Tryz.strings_IndexByte _ _ _)))
  simp only [show ∀ x, Lib.indexByte ByteArray.empty.data.toList x = -1 from fun _ => rfl]
  go_wp2
  rw [Exit.noGoto_ret]
  show Exit.noGoto _ .ret _ _
  repeat (first | rw [Exit.noGoto_ret] | (simp only [Exit.then, Exit.inBlock]))
  go_ret
  exact ⟨rfl, pw_below_drewN hB3 _⟩
theorem indexRune_high (r : Nat) (w : World) (h1 : 128 ≤ r) (ok : r < 55296 ∨ (57344 ≤ r ∧ r ≤ 1114111)) :
  Calls Tryz.prog 169 #[.string ⟨#[32, 9]⟩, .int .i32 r] w fun e w' => e = .returned (.int .i64 (-1)) ∧ Below w.heap.size w w' := by
 by_cases h2 : r < 2048
 ·exact indexRune_two r w h1 h2
 by_cases h3 : r = 65533
 ·subst h3
  exact indexRune_bad w
 exact indexRune_more r w (by omega) (by omega) (by omega) h3
/-! strings.IndexRune of ";", blank, tab at a sign beyond ASCII: -1. -/
theorem semi_decode0 : Utf8.decode ⟨#[59, 32, 9]⟩ 0 = (59, 1) := by decide
theorem semi_decode1 : Utf8.decode ⟨#[59, 32, 9]⟩ 1 = (32, 1) := by decide
theorem semi_decode2 : Utf8.decode ⟨#[59, 32, 9]⟩ 2 = (9, 1) := by decide
set_option maxHeartbeats 4000000 in
set_option maxRecDepth 100000 in
theorem indexRune3_bad (w : World) :
  Calls Tryz.prog 169 #[.string ⟨#[59, 32, 9]⟩, .int .i32 65533] w fun e w' => e = .returned (.int .i64 (-1)) ∧ Below w.heap.size w w' := by
 go_enter Tryz.func169, Tryz.ntmps169
 go_wp2
 go_loopw [] (fun wr => ∃ (pos : Nat), pos ≤ 3 ∧ wr.heap[w.heap.size]? = some (.stringIter ⟨#[59, 32, 9]⟩ pos) ∧ Below w.heap.size w wr) (fun wr => 3 - wr.iterPos w.heap.size)
 case atStart =>
  refine ⟨0, by omega, ?_, (Below.refl _ w).alloc (by simp) _⟩
  have := World.iter_heap w ⟨#[59, 32, 9]⟩ 0
  simpa using this
 case round =>
  obtain ⟨pos, hp2, hit, hbw⟩ := hrel
  have hsz : w.heap.size < wr.heap.size := (Array.getElem?_eq_some_iff.1 hit).1
  rcases (show pos = 0 ∨ pos = 1 ∨ pos = 2 ∨ pos = 3 by omega) with rfl | rfl | rfl | rfl
  ·have hnx : ∀ ty, (Instr.next (.pointer (some ⟨w.heap.size, 0, none⟩)) true ty).run Tryz.prog wr = _ := fun ty => Lib.run_next_any_at wr w.heap.size ⟨#[59, 32, 9]⟩ 0 ty hit (by decide)
   rw [semi_decode0] at hnx
   have hit2 := Lib.iterAt_heap wr w.heap.size ⟨#[59, 32, 9]⟩ 0 (0 + 1) hit
   have hbw2 := Lib.below_iterAt hbw (k := w.heap.size) (by omega) ⟨#[59, 32, 9]⟩ (0 + 1)
   go_wp2
   go_roundw
   case rel => exact ⟨1, by omega, hit2, hbw2⟩
   case measure => simp only [World.iterPos, hit2, hit]; omega
  ·have hnx : ∀ ty, (Instr.next (.pointer (some ⟨w.heap.size, 0, none⟩)) true ty).run Tryz.prog wr = _ := fun ty => Lib.run_next_any_at wr w.heap.size ⟨#[59, 32, 9]⟩ 1 ty hit (by decide)
   rw [semi_decode1] at hnx
   have hit2 := Lib.iterAt_heap wr w.heap.size ⟨#[59, 32, 9]⟩ 1 (1 + 1) hit
   have hbw2 := Lib.below_iterAt hbw (k := w.heap.size) (by omega) ⟨#[59, 32, 9]⟩ (1 + 1)
   go_wp2
   go_roundw
   case rel => exact ⟨2, by omega, hit2, hbw2⟩
   case measure => simp only [World.iterPos, hit2, hit]; omega
  ·have hnx : ∀ ty, (Instr.next (.pointer (some ⟨w.heap.size, 0, none⟩)) true ty).run Tryz.prog wr = _ := fun ty => Lib.run_next_any_at wr w.heap.size ⟨#[59, 32, 9]⟩ 2 ty hit (by decide)
   rw [semi_decode2] at hnx
   have hit2 := Lib.iterAt_heap wr w.heap.size ⟨#[59, 32, 9]⟩ 2 (2 + 1) hit
   have hbw2 := Lib.below_iterAt hbw (k := w.heap.size) (by omega) ⟨#[59, 32, 9]⟩ (2 + 1)
   go_wp2
   go_roundw
   case rel => exact ⟨3, by omega, hit2, hbw2⟩
   case measure => simp only [World.iterPos, hit2, hit]; omega
  have hnx : ∀ ty, (Instr.next (.pointer (some ⟨w.heap.size, 0, none⟩)) true ty).run Tryz.prog wr = _ := fun ty => Lib.run_next_end_at wr w.heap.size ⟨#[59, 32, 9]⟩ 3 ty hit (by decide)
  go_wp2
  go_ret
  exact ⟨rfl, hbw⟩
set_option maxHeartbeats 4000000 in
set_option maxRecDepth 1000000 in
theorem indexRune3_four (r : Nat) (w : World) (h1 : 2048 ≤ r) (h2 : r ≤ 1114111) (h3 : r < 55296 ∨ 57344 ≤ r) (h4 : r ≠ 65533) (h5 : 4 ≤ (Utf8.encode (r : Int)).size) :
  Calls Tryz.prog 169 #[.string ⟨#[59, 32, 9]⟩, .int .i32 r] w fun e w' => e = .returned (.int .i64 (-1)) ∧ Below w.heap.size w w' := by
 obtain ⟨_, g2⟩ := enc_more r h1
 have g1 := h5
 have e1 : ((0 : Int) ≤ (r : Int)) = True := eq_true (by omega)
 have e2 : ((r : Int) < 128) = False := eq_false (by omega)
 have e3 : ((r : Int) == 65533) = false := beq_eq_false_iff_ne.2 (by omega)
 have e4 : Lib.validRune (r : Int) = true := by unfold Lib.validRune; simp; omega
 have e5 : decide ((r : Int) < 128) = false := decide_eq_false (by omega)
 have e6 : decide ((0 : Int) ≤ (r : Int)) = true := decide_eq_true (by omega)
 go_enter Tryz.func169, Tryz.ntmps169
 have e7 : (Utf8.encode (r : Int)).size ≤ maxLen := by unfold maxLen; omega
 have e8 : wrap64 (((Utf8.encode (r : Int)).size : Int) - 1) = ((Utf8.encode (r : Int)).size : Int) - 1 := by unfold wrap64; omega
 go_wp2_with (go_at_call 195; refine (Tryz.utf8_ValidRune _ _).mono ?_; rintro e W1 ⟨rfl, rfl⟩; rw [e4])
 go_step3
 go_wp2
 go_loopw [9] (fun v9 wr => v9 = .int .i64 (((Utf8.encode (r : Int)).size : Int) - 1) ∧ wr = W1) (fun v9 wr => 0)
 case atStart => exact ⟨rfl, rfl⟩
 case round =>
  obtain ⟨rfl, rfl⟩ := hrel
  have e9 : decide ((((Utf8.encode (r : Int)).size : Int) - 1) < 3) = false := decide_eq_false (by omega)
  go_wp2
  (try rw [Exit.noGoto_exit])
  go_wp2
  (try rw [Exit.noGoto_ret])
  go_ret
  exact ⟨rfl, Below.refl _ _⟩
set_option maxHeartbeats 4000000 in
set_option maxRecDepth 1000000 in
theorem indexRune3_two (r : Nat) (w : World) (h1 : 128 ≤ r) (h2 : r < 2048) :
  Calls Tryz.prog 169 #[.string ⟨#[59, 32, 9]⟩, .int .i32 r] w fun e w' => e = .returned (.int .i64 (-1)) ∧ Below w.heap.size w w' := by
 have HE := hid (enc_two r h1 h2)
 obtain ⟨b, hb⟩ : ∃ b : UInt8, UInt8.ofNat (128 + r % 64) = b := ⟨_, rfl⟩
 obtain ⟨c, hc⟩ : ∃ c : UInt8, UInt8.ofNat (192 + r / 64) = c := ⟨_, rfl⟩
 have hbn : b.toNat = 128 + r % 64 := by rw [← hb]; simp; omega
 rw [hb, hc] at HE
 have e3 : ((r : Int) == 65533) = false := beq_eq_false_iff_ne.2 (by omega)
 have e4 : Lib.validRune (r : Int) = true := by unfold Lib.validRune; simp; omega
 have e5 : decide ((r : Int) < 128) = false := decide_eq_false (by omega)
 have e6 : decide ((0 : Int) ≤ (r : Int)) = true := decide_eq_true (by omega)
 have e10 : (32 != (b.toNat : Int)) = true := by rw [bne_iff_ne]; omega
 have e8 : wrap64 (((⟨#[c, b]⟩ : ByteArray).size : Int) - 1) = 1 := by show wrap64 (((2 : Nat) : Int) - 1) = 1; unfold wrap64; omega
 have e11 : Lib.indexByte ((⟨#[59, 32, 9]⟩ : ByteArray).extract 2 3).data.toList (b.toNat : Int).toNat.toUInt8 = -1 := by
  have hb2 : (b.toNat : Int).toNat.toUInt8 = b := by simp
  have h9 : ¬ ((9 : UInt8) == b) = true := by
   intro x
   have := beq_iff_eq.1 x
   rw [← this] at hbn
   have h9n : (9 : UInt8).toNat = 9 := rfl
   omega
  rw [hb2]
  show Lib.indexByte [9] b = -1
  rw [Lib.indexByte, if_neg h9]
  rfl
 go_enter Tryz.func169, Tryz.ntmps169
 go_wp2_with (go_at_call 195; refine (Tryz.utf8_ValidRune _ _).mono ?_; rintro e W1 ⟨rfl, rfl⟩; rw [e4])
 go_step3
 go_wp2
 rw [HE.out]
 simp only [e8]
 go_loopw [9] (fun v9 wr => v9 = .int .i64 1 ∧ wr = W1) (fun v9 wr => 0)
 case atStart => exact ⟨rfl, rfl⟩
 case round =>
  obtain ⟨rfl, rfl⟩ := hrel
  go_wp2
  go_step3
  go_wp2
  go_quiet (fail)
  simp only [show ((((⟨#[59, 32, 9]⟩ : ByteArray)[1]'(by decide)).toNat : Int) != (((⟨#[c, b]⟩ : ByteArray)[1]'(by show 1 < 2; decide)).toNat : Int)) = true from e10]
  go_wp2
  have hB3 := pw_below_drewN (Below.refl wr.heap.size wr) nq
  generalize wr.drewN nq = W3 at hB3 ⊢
  have e12 : IntKind.i64.wrap 2 = 2 := by decide
  have e13 : ((2 : Int) ≤ ((⟨#[59, 32, 9]⟩ : ByteArray).size : Int)) = True := eq_true (by decide)
  go_quiet (first | (go_at_call 172; refine Calls.quiet_of_same (Tryz.strings_IndexByte _ _ _)))
  simp only [show Lib.indexByte ((⟨#[59, 32, 9]⟩ : ByteArray).extract 2 3).data.toList ((((⟨#[c, b]⟩ : ByteArray)[1]'(by show 1 < 2; decide)).toNat : Int)).toNat.toUInt8 = -1 from e11]
  go_wp2
  rw [Exit.noGoto_ret]
  show Exit.noGoto _ .ret _ _
  repeat (first | rw [Exit.noGoto_ret] | (simp only [Exit.then, Exit.inBlock]))
  go_ret
  exact ⟨rfl, pw_below_drewN hB3 _⟩
theorem enc_three (r : Nat) (h1 : 2048 ≤ r) (h2 : r < 65536) (h3 : r < 55296 ∨ 57344 ≤ r) : Utf8.encode (r : Int) = ⟨#[UInt8.ofNat (224 + r / 4096), UInt8.ofNat (128 + r / 64 % 64), UInt8.ofNat (128 + r % 64)]⟩ := by
 have hv : Utf8.valid (r : Int) = true := by unfold Utf8.valid; simp; omega
 unfold Utf8.encode
 simp only [hv, if_true, Int.toNat_natCast]
 rw [if_neg (by omega), if_neg (by omega), if_pos (by omega)]
theorem enc_four_size (r : Nat) (h1 : 65536 ≤ r) (h2 : r ≤ 1114111) : 4 ≤ (Utf8.encode (r : Int)).size := by
 have hv : Utf8.valid (r : Int) = true := by unfold Utf8.valid; simp; omega
 unfold Utf8.encode
 simp only [hv, if_true, Int.toNat_natCast]
 rw [if_neg (by omega), if_neg (by omega), if_neg (by omega)]
 exact Nat.le_refl 4
set_option maxHeartbeats 4000000 in
set_option maxRecDepth 1000000 in
theorem indexRune3_three (r : Nat) (w : World) (h1 : 2048 ≤ r) (h2 : r < 65536) (h3 : r < 55296 ∨ 57344 ≤ r) (h4 : r ≠ 65533) :
  Calls Tryz.prog 169 #[.string ⟨#[59, 32, 9]⟩, .int .i32 r] w fun e w' => e = .returned (.int .i64 (-1)) ∧ Below w.heap.size w w' := by
 have HE := hid (enc_three r h1 h2 h3)
 obtain ⟨b, hb⟩ : ∃ b : UInt8, UInt8.ofNat (128 + r % 64) = b := ⟨_, rfl⟩
 obtain ⟨c, hc⟩ : ∃ c : UInt8, UInt8.ofNat (224 + r / 4096) = c := ⟨_, rfl⟩
 obtain ⟨d, hd⟩ : ∃ d : UInt8, UInt8.ofNat (128 + r / 64 % 64) = d := ⟨_, rfl⟩
 have hbn : b.toNat = 128 + r % 64 := by rw [← hb]; simp; omega
 rw [hb, hc, hd] at HE
 have e3 : ((r : Int) == 65533) = false := beq_eq_false_iff_ne.2 (by omega)
 have e4 : Lib.validRune (r : Int) = true := by unfold Lib.validRune; simp; omega
 have e5 : decide ((r : Int) < 128) = false := decide_eq_false (by omega)
 have e6 : decide ((0 : Int) ≤ (r : Int)) = true := decide_eq_true (by omega)
 have e10 : (9 != (b.toNat : Int)) = true := by rw [bne_iff_ne]; omega
 have e8 : wrap64 (((⟨#[c, d, b]⟩ : ByteArray).size : Int) - 1) = 2 := by show wrap64 (((3 : Nat) : Int) - 1) = 2; unfold wrap64; omega
 have e11 : Lib.indexByte ((⟨#[59, 32, 9]⟩ : ByteArray).extract 3 3).data.toList (b.toNat : Int).toNat.toUInt8 = -1 := by
  have hb2 : (b.toNat : Int).toNat.toUInt8 = b := by simp
  have h9 : ¬ ((9 : UInt8) == b) = true := by
   intro x
   have := beq_iff_eq.1 x
   rw [← this] at hbn
   have h9n : (9 : UInt8).toNat = 9 := rfl
   omega
  rw [hb2]
  rfl
 go_enter Tryz.func169, Tryz.ntmps169
 go_wp2_with (go_at_call 195; refine (Tryz.utf8_ValidRune _ _).mono ?_; rintro e W1 ⟨rfl, rfl⟩; rw [e4])
 go_step3
 go_wp2
 rw [HE.out]
 simp only [e8]
 go_loopw [9] (fun v9 wr => v9 = .int .i64 2 ∧ wr = W1) (fun v9 wr => 0)
 case atStart => exact ⟨rfl, rfl⟩
 case round =>
  obtain ⟨rfl, rfl⟩ := hrel
  go_wp2
  go_step3
  go_wp2
  go_quiet (fail)
  simp only [show ((((⟨#[59, 32, 9]⟩ : ByteArray)[2]'(by decide)).toNat : Int) != (((⟨#[c, d, b]⟩ : ByteArray)[2]'(by show 2 < 3; decide)).toNat : Int)) = true from e10]
  go_wp2
  have hB3 := pw_below_drewN (Below.refl wr.heap.size wr) nq
  generalize wr.drewN nq = W3 at hB3 ⊢
  have e12 : IntKind.i64.wrap 3 = 3 := by decide
  have e13 : ((3 : Int) ≤ ((⟨#[59, 32, 9]⟩ : ByteArray).size : Int)) = True := eq_true (by decide)
  go_quiet (first | (go_at_call 172; refine Calls.quiet_of_same (Tryz.strings_IndexByte _ _ _)))
  simp only [show ∀ x, Lib.indexByte ByteArray.empty.data.toList x = -1 from fun _ => rfl]
  go_wp2
  rw [Exit.noGoto_ret]
  show Exit.noGoto _ .ret _ _
  repeat (first | rw [Exit.noGoto_ret] | (simp only [Exit.then, Exit.inBlock]))
  go_ret
  exact ⟨rfl, pw_below_drewN hB3 _⟩
theorem indexRune3_high (r : Nat) (w : World) (h1 : 128 ≤ r) (ok : r < 55296 ∨ (57344 ≤ r ∧ r ≤ 1114111)) :
  Calls Tryz.prog 169 #[.string ⟨#[59, 32, 9]⟩, .int .i32 r] w fun e w' => e = .returned (.int .i64 (-1)) ∧ Below w.heap.size w w' := by
 by_cases h2 : r < 2048
 ·exact indexRune3_two r w h1 h2
 by_cases h3 : r = 65533
 ·subst h3
  exact indexRune3_bad w
 by_cases h4 : r < 65536
 ·exact indexRune3_three r w (by omega) h4 (by omega) h3
 exact indexRune3_four r w (by omega) (by omega) (by omega) h3 (enc_four_size r (by omega) (by omega))
def strings_IndexAny.f (a0 a1 : ByteArray) : Option Int :=
 if a1 = ⟨#[32, 9]⟩ then (if a0.size < 4294967281 then some (Lib.indexAny a0.data.toList [32, 9]) else none) else if a1 = ⟨#[59, 32, 9]⟩ then (if a0.size < 4294967281 then some (Lib.indexAny a0.data.toList [59, 32, 9]) else none) else none
theorem at_list (s : ByteArray) (j : Nat) (h : j < s.size) : s.data.toList[j]? = some (s.get! j) := by
 have h' : j < s.data.size := h
 rw [Array.getElem?_toList, Array.getElem?_eq_getElem h']
 congr 1
 show s.data[j] = s.data[j]!
 rw [getElem!_pos s.data j h']
theorem noAny_run {s : ByteArray} {i : Nat} : ∀ n, i + n ≤ s.size → (∀ j, j < n → 128 ≤ (s.get! (i + j)).toNat) → Lib.NoAny s.data.toList [32, 9] i → Lib.NoAny s.data.toList [32, 9] (i + n)
 | 0, _, _, h => h
 | n + 1, h0, hb, h => by
  have ih := noAny_run n (by omega) (fun j hj => hb j (by omega)) h
  have hx := at_list s (i + n) (by omega)
  refine ih.succ hx ?_
  have := hb n (by omega)
  generalize s.get! (i + n) = c at this
  have h1 : c ≠ 32 := by rintro rfl; revert this; decide
  have h2 : c ≠ 9 := by rintro rfl; revert this; decide
  simp [h1, h2]
theorem high_run (s : ByteArray) (i : Nat) (h : i < s.size) (h1 : 128 ≤ (s.get! i).toNat) : ∀ j, j < (Utf8.decode s i).2 → 128 ≤ (s.get! (i + j)).toNat := by
 intro j hj
 by_cases h0 : j = 0
 ·subst h0; exact h1
 rw [Lib.decode_at] at hj
 have g0 : (s.get! i).toNat < 256 := (s.get! i).toNat_lt
 unfold Lib.decodeN at hj
 have hj' : j = 1 ∨ j = 2 ∨ j = 3 := by
  repeat' split at hj
  all_goals (simp only [] at hj; omega)
 rcases hj' with rfl | rfl | rfl
 all_goals
  repeat' split at hj
  all_goals (simp only [] at hj; omega)
theorem sign_ok (s : ByteArray) (i : Nat) : (Utf8.decode s i).1 < 55296 ∨ (57344 ≤ (Utf8.decode s i).1 ∧ (Utf8.decode s i).1 ≤ 1114111) := by
 rw [Lib.decode_at]
 have g0 : (s.get! i).toNat < 256 := (s.get! i).toNat_lt
 unfold Lib.decodeN
 repeat' split
 all_goals (simp only []; omega)
theorem sign_beyond (s : ByteArray) (i : Nat) (h : 128 ≤ (s.get! i).toNat) : 128 ≤ (Utf8.decode s i).1 := by
 rw [Lib.decode_at]
 have g0 : (s.get! i).toNat < 256 := (s.get! i).toNat_lt
 unfold Lib.decodeN
 repeat' split
 all_goals (simp only []; omega)
set_option maxHeartbeats 4000000 in
set_option maxRecDepth 1000000 in
theorem indexAny_short (s : ByteArray) (w : World) (h8 : s.size ≤ 8) :
  Calls Tryz.prog 153 #[.string s, .string ⟨#[32, 9]⟩] w fun e w' => e = .returned (.int .i64 (Lib.indexAny s.data.toList [32, 9])) ∧ Below w.heap.size w w' := by
 have h8z : decide ((8 : Int) < (s.size : Int)) = false := decide_eq_false (by omega)
 go_enter Tryz.func153, Tryz.ntmps153
 go_wp2_with (go_at_call 180; refine (Tryz.strings_shouldUseASCIISet _ _).mono ?_; rintro e w' ⟨rfl, hw⟩; rw [hw, h8z])
 go_loopw [] (fun wr => ∃ (pos : Nat), pos ≤ s.size ∧ wr.heap[w.heap.size]? = some (.stringIter s pos) ∧ Below w.heap.size w wr ∧ Hid (Lib.NoAny s.data.toList [32, 9] pos)) (fun wr => s.size - wr.iterPos w.heap.size)
 case atStart =>
  refine ⟨0, Nat.zero_le _, ?_, (Below.refl _ w).alloc (by simp) _, hid (Lib.NoAny.zero _ _)⟩
  have := World.iter_heap w s 0
  simpa using this
 case round =>
  obtain ⟨pos, hps, hit, hbw, hno⟩ := hrel
  have hsz : w.heap.size < wr.heap.size := (Array.getElem?_eq_some_iff.1 hit).1
  by_cases hp : pos < s.size
  ·have hwd : 1 ≤ (Utf8.decode s pos).2 := Pl.width_pos s pos hp
   have hwe : pos + (Utf8.decode s pos).2 ≤ s.size := Pl.width_end s pos hp
   have hnx : ∀ ty, (Instr.next (.pointer (some ⟨w.heap.size, 0, none⟩)) true ty).run Tryz.prog wr = _ := fun ty => Lib.run_next_any_at wr w.heap.size s pos ty hit hp
   have hit2 := Lib.iterAt_heap wr w.heap.size s pos (pos + (Utf8.decode s pos).2) hit
   have hbw2 := Lib.below_iterAt hbw (k := w.heap.size) (by omega) s (pos + (Utf8.decode s pos).2)
   by_cases h1 : 128 ≤ (s.get! pos).toNat
   ·have HI := hid (indexRune_high (Utf8.decode s pos).1 (wr.iterAt w.heap.size s (pos + (Utf8.decode s pos).2)) (sign_beyond s pos h1) (sign_ok s pos))
    have hno2 := hid (noAny_run _ hwe (high_run s pos hp h1) hno.out)
    clear h1 hno
    go_wp2_with (go_at_call 169; refine HI.out.mono ?_; rintro e W1 ⟨rfl, hb1⟩)
    go_roundw
    case rel =>
     refine ⟨pos + (Utf8.decode s pos).2, hwe, ?_, hbw2.trans (hb1.mono (by rw [Lib.iterAt_size]; omega)), hno2⟩
     rw [hb1.block w.heap.size (by rw [Lib.iterAt_size]; exact hsz)]
     exact hit2
    case measure =>
     have hit3 : W1.heap[w.heap.size]? = some (.stringIter s (pos + (Utf8.decode s pos).2)) := by
      rw [hb1.block w.heap.size (by rw [Lib.iterAt_size]; exact hsz)]
      exact hit2
     simp only [World.iterPos, hit3, hit]
     omega
   have hd : Utf8.decode s pos = ((s.get! pos).toNat, 1) := by
    rw [Lib.decode_at]
    unfold Lib.decodeN
    rw [if_pos (by omega)]
   have hx := at_list s pos hp
   have hl : (s.get! pos).toNat < 128 := by omega
   clear h1
   rw [hd] at hnx hit2 hbw2
   generalize s.get! pos = c at *
   have hback : ((c.toNat : Int)).toNat.toUInt8 = c := by simp
   have HR := hid (Tryz.strings_IndexRune_ascii ⟨#[32, 9]⟩ (c.toNat : Int) (wr.iterAt w.heap.size s (pos + 1)) (by omega) (by omega))
   rw [hback] at HR
   by_cases hin : ([32, 9] : List UInt8).contains c = true
   ·have hv : decide ((0 : Int) ≤ Lib.indexByte (⟨#[32, 9]⟩ : ByteArray).data.toList c) = true := by
     rw [← Lib.contains_iff_indexByte]; exact hin
    have hres := hid (Lib.indexAny_hit hno.out hx hin)
    clear hin hno hx
    go_wp2_with (go_at_call 169; refine HR.out.mono ?_; rintro e W1 ⟨rfl, hw⟩; rw [hw])
    go_ret
    exact ⟨by rw [hres.out]; rfl, hbw2⟩
   have hin' : ([32, 9] : List UInt8).contains c = false := by simpa using hin
   have hv : decide ((0 : Int) ≤ Lib.indexByte (⟨#[32, 9]⟩ : ByteArray).data.toList c) = false := by
    rw [← Lib.contains_iff_indexByte]; exact hin'
   have hno2 := hid (hno.out.succ hx hin')
   clear hin hin' hno hx
   go_wp2_with (go_at_call 169; refine HR.out.mono ?_; rintro e W1 ⟨rfl, hw⟩; rw [hw])
   go_roundw
   case rel => exact ⟨pos + 1, by omega, hit2, hbw2, hno2⟩
   case measure => simp only [World.iterPos, hit2, hit]; omega
  obtain rfl : pos = s.size := by omega
  have hnx : ∀ ty, (Instr.next (.pointer (some ⟨w.heap.size, 0, none⟩)) true ty).run Tryz.prog wr = _ := fun ty => Lib.run_next_end_at wr w.heap.size s s.size ty hit hp
  have hres := hid (Lib.indexAny_none (s := s.data.toList) (chars := [32, 9]) (by rw [Pl.data_length]; exact hno.out))
  go_wp2
  go_ret
  exact ⟨by rw [hres.out]; rfl, hbw⟩
theorem ascii9 : ∀ (j : Nat) b, (⟨#[32, 9]⟩ : ByteArray).data.toList[j]? = some b → b.toNat < 128 := fun _ b hb => of_decide_eq_true (List.all_eq_true.1 (show ([32, 9] : List UInt8).all (fun b => decide (b.toNat < 128)) = true by decide) b (List.mem_of_getElem? hb))
theorem noAny3_run {s : ByteArray} {i : Nat} : ∀ n, i + n ≤ s.size → (∀ j, j < n → 128 ≤ (s.get! (i + j)).toNat) → Lib.NoAny s.data.toList [59, 32, 9] i → Lib.NoAny s.data.toList [59, 32, 9] (i + n)
 | 0, _, _, h => h
 | n + 1, h0, hb, h => by
  have ih := noAny3_run n (by omega) (fun j hj => hb j (by omega)) h
  have hx := at_list s (i + n) (by omega)
  refine ih.succ hx ?_
  have := hb n (by omega)
  generalize s.get! (i + n) = c at this
  have h1 : c ≠ 32 := by rintro rfl; revert this; decide
  have h2 : c ≠ 9 := by rintro rfl; revert this; decide
  have h0 : c ≠ 59 := by rintro rfl; revert this; decide
  simp [h0, h1, h2]
set_option maxHeartbeats 4000000 in
set_option maxRecDepth 1000000 in
theorem indexAny3_short (s : ByteArray) (w : World) (h8 : s.size ≤ 8) :
  Calls Tryz.prog 153 #[.string s, .string ⟨#[59, 32, 9]⟩] w fun e w' => e = .returned (.int .i64 (Lib.indexAny s.data.toList [59, 32, 9])) ∧ Below w.heap.size w w' := by
 have h8z : decide ((8 : Int) < (s.size : Int)) = false := decide_eq_false (by omega)
 go_enter Tryz.func153, Tryz.ntmps153
 go_wp2_with (go_at_call 180; refine (Tryz.strings_shouldUseASCIISet _ _).mono ?_; rintro e w' ⟨rfl, hw⟩; rw [hw, h8z])
 go_loopw [] (fun wr => ∃ (pos : Nat), pos ≤ s.size ∧ wr.heap[w.heap.size]? = some (.stringIter s pos) ∧ Below w.heap.size w wr ∧ Hid (Lib.NoAny s.data.toList [59, 32, 9] pos)) (fun wr => s.size - wr.iterPos w.heap.size)
 case atStart =>
  refine ⟨0, Nat.zero_le _, ?_, (Below.refl _ w).alloc (by simp) _, hid (Lib.NoAny.zero _ _)⟩
  have := World.iter_heap w s 0
  simpa using this
 case round =>
  obtain ⟨pos, hps, hit, hbw, hno⟩ := hrel
  have hsz : w.heap.size < wr.heap.size := (Array.getElem?_eq_some_iff.1 hit).1
  by_cases hp : pos < s.size
  ·have hwd : 1 ≤ (Utf8.decode s pos).2 := Pl.width_pos s pos hp
   have hwe : pos + (Utf8.decode s pos).2 ≤ s.size := Pl.width_end s pos hp
   have hnx : ∀ ty, (Instr.next (.pointer (some ⟨w.heap.size, 0, none⟩)) true ty).run Tryz.prog wr = _ := fun ty => Lib.run_next_any_at wr w.heap.size s pos ty hit hp
   have hit2 := Lib.iterAt_heap wr w.heap.size s pos (pos + (Utf8.decode s pos).2) hit
   have hbw2 := Lib.below_iterAt hbw (k := w.heap.size) (by omega) s (pos + (Utf8.decode s pos).2)
   by_cases h1 : 128 ≤ (s.get! pos).toNat
   ·have HI := hid (indexRune3_high (Utf8.decode s pos).1 (wr.iterAt w.heap.size s (pos + (Utf8.decode s pos).2)) (sign_beyond s pos h1) (sign_ok s pos))
    have hno2 := hid (noAny3_run _ hwe (high_run s pos hp h1) hno.out)
    clear h1 hno
    go_wp2_with (go_at_call 169; refine HI.out.mono ?_; rintro e W1 ⟨rfl, hb1⟩)
    go_roundw
    case rel =>
     refine ⟨pos + (Utf8.decode s pos).2, hwe, ?_, hbw2.trans (hb1.mono (by rw [Lib.iterAt_size]; omega)), hno2⟩
     rw [hb1.block w.heap.size (by rw [Lib.iterAt_size]; exact hsz)]
     exact hit2
    case measure =>
     have hit3 : W1.heap[w.heap.size]? = some (.stringIter s (pos + (Utf8.decode s pos).2)) := by
      rw [hb1.block w.heap.size (by rw [Lib.iterAt_size]; exact hsz)]
      exact hit2
     simp only [World.iterPos, hit3, hit]
     omega
   have hd : Utf8.decode s pos = ((s.get! pos).toNat, 1) := by
    rw [Lib.decode_at]
    unfold Lib.decodeN
    rw [if_pos (by omega)]
   have hx := at_list s pos hp
   have hl : (s.get! pos).toNat < 128 := by omega
   clear h1
   rw [hd] at hnx hit2 hbw2
   generalize s.get! pos = c at *
   have hback : ((c.toNat : Int)).toNat.toUInt8 = c := by simp
   have HR := hid (Tryz.strings_IndexRune_ascii ⟨#[59, 32, 9]⟩ (c.toNat : Int) (wr.iterAt w.heap.size s (pos + 1)) (by omega) (by omega))
   rw [hback] at HR
   by_cases hin : ([59, 32, 9] : List UInt8).contains c = true
   ·have hv : decide ((0 : Int) ≤ Lib.indexByte (⟨#[59, 32, 9]⟩ : ByteArray).data.toList c) = true := by
     rw [← Lib.contains_iff_indexByte]; exact hin
    have hres := hid (Lib.indexAny_hit hno.out hx hin)
    clear hin hno hx
    go_wp2_with (go_at_call 169; refine HR.out.mono ?_; rintro e W1 ⟨rfl, hw⟩; rw [hw])
    go_ret
    exact ⟨by rw [hres.out]; rfl, hbw2⟩
   have hin' : ([59, 32, 9] : List UInt8).contains c = false := by simpa using hin
   have hv : decide ((0 : Int) ≤ Lib.indexByte (⟨#[59, 32, 9]⟩ : ByteArray).data.toList c) = false := by
    rw [← Lib.contains_iff_indexByte]; exact hin'
   have hno2 := hid (hno.out.succ hx hin')
   clear hin hin' hno hx
   go_wp2_with (go_at_call 169; refine HR.out.mono ?_; rintro e W1 ⟨rfl, hw⟩; rw [hw])
   go_roundw
   case rel => exact ⟨pos + 1, by omega, hit2, hbw2, hno2⟩
   case measure => simp only [World.iterPos, hit2, hit]; omega
  obtain rfl : pos = s.size := by omega
  have hnx : ∀ ty, (Instr.next (.pointer (some ⟨w.heap.size, 0, none⟩)) true ty).run Tryz.prog wr = _ := fun ty => Lib.run_next_end_at wr w.heap.size s s.size ty hit hp
  have hres := hid (Lib.indexAny_none (s := s.data.toList) (chars := [59, 32, 9]) (by rw [Pl.data_length]; exact hno.out))
  go_wp2
  go_ret
  exact ⟨by rw [hres.out]; rfl, hbw⟩
theorem ascii59 : ∀ (j : Nat) b, (⟨#[59, 32, 9]⟩ : ByteArray).data.toList[j]? = some b → b.toNat < 128 := fun _ b hb => of_decide_eq_true (List.all_eq_true.1 (show ([59, 32, 9] : List UInt8).all (fun b => decide (b.toNat < 128)) = true by decide) b (List.mem_of_getElem? hb))
theorem strings_IndexAny.calls (a0 a1 : ByteArray) (r : Int) (w : World) (h : strings_IndexAny.f a0 a1 = some r) :
  Calls Tryz.prog 153 #[.string a0, .string a1] w fun e w' => e = .returned (.int .i64 r) ∧ Below w.heap.size w w' := by
 unfold strings_IndexAny.f at h
 by_cases hc : a1 = ⟨#[32, 9]⟩
 ·rw [if_pos hc] at h
  by_cases hs : a0.size < 4294967281
  ·rw [if_pos hs] at h
   have HR := Option.some.inj h
   subst HR
   subst hc
   by_cases h8 : a0.size ≤ 8
   ·exact indexAny_short a0 w h8
   have h116 : (Tryz.prog.info? (Tryz.lays153_ren.t 116)).map (fun i => (i.zero, i.size)) = some (some (.agg (Array.replicate 256 (.bool false))), 256) := by kernel_rfl
   refine (Any.strings_IndexAny_long Tryz.lays153 (zero_of_info h116).1 (zero_of_info h116).2 a0 ⟨#[32, 9]⟩ w (by decide) (by omega) hs (by decide) ascii9).mono fun e w' ⟨h1, h2⟩ => ⟨h1, ?_⟩
   rw [h2]
   exact ((Below.refl _ _).alloc (Nat.le_refl _) _).alloc (by simp) _
  rw [if_neg hs] at h
  exact absurd h (by simp)
 rw [if_neg hc] at h
 by_cases hc3 : a1 = ⟨#[59, 32, 9]⟩
 ·rw [if_pos hc3] at h
  by_cases hs : a0.size < 4294967281
  ·rw [if_pos hs] at h
   have HR := Option.some.inj h
   subst HR
   subst hc3
   by_cases h8 : a0.size ≤ 8
   ·exact indexAny3_short a0 w h8
   have h116 : (Tryz.prog.info? (Tryz.lays153_ren.t 116)).map (fun i => (i.zero, i.size)) = some (some (.agg (Array.replicate 256 (.bool false))), 256) := by kernel_rfl
   refine (Any.strings_IndexAny_long Tryz.lays153 (zero_of_info h116).1 (zero_of_info h116).2 a0 ⟨#[59, 32, 9]⟩ w (by decide) (by omega) hs (by decide) ascii59).mono fun e w' ⟨h1, h2⟩ => ⟨h1, ?_⟩
   rw [h2]
   exact ((Below.refl _ _).alloc (Nat.le_refl _) _).alloc (by simp) _
  rw [if_neg hs] at h
  exact absurd h (by simp)
 rw [if_neg hc3] at h
 exact absurd h (by simp)
def glyph_Words.f (a0 : ByteArray) : Option (List ByteArray) := if a0.size ≤ 4294967296 then some (Pl.words a0) else none
theorem glyph_blank_is (r : Nat) : glyph_blank.f (r : Int) = some (Pl.blank r) := by
 unfold glyph_blank.f Pl.blank
 have e1 : ((r : Int) = 32) = (r = 32) := propext ⟨fun h => by omega, fun h => by omega⟩
 have e2 : ((r : Int) = 9) = (r = 9) := propext ⟨fun h => by omega, fun h => by omega⟩
 have e3 : ((r : Int) = 13) = (r = 13) := propext ⟨fun h => by omega, fun h => by omega⟩
 have e4 : ((r : Int) == 10) = (r == 10) := by
  rw [Bool.eq_iff_iff, beq_iff_eq, beq_iff_eq]
  omega
 simp only [e1, e2, e3, e4]
 by_cases h1 : r = 32
 ·simp [h1]
 by_cases h2 : r = 9
 ·simp [h2]
 by_cases h3 : r = 13
 ·simp [h3]
 have b1 : (r == 32) = false := by simp [h1]
 have b2 : (r == 9) = false := by simp [h2]
 have b3 : (r == 13) = false := by simp [h3]
 simp [h1, h2, h3]
 rw [b1, b2, b3]
 simp
set_option maxHeartbeats 4000000 in
set_option maxRecDepth 100000 in
theorem glyph_Words.calls (a0 : ByteArray) (r : List ByteArray) (w : World) (h : glyph_Words.f a0 = some r) :
  Calls Tryz.prog 23 #[.string a0] w fun e w' => ∃ v0_ : Value, e = .returned (v0_) ∧ Kd.R Kd.string 9 w' w.heap.size (fun _ => True) v0_ r ∧ Below w.heap.size w w' := by
 unfold glyph_Words.f at h
 by_cases hs : a0.size ≤ 4294967296
 ·rw [if_pos hs] at h
  have HR := hid (Option.some.inj h)
  clear h
  have hp : Go.Proofs.PredAt Tryz.prog 55 #[] Go.Proofs.encR Pl.blank w := by
   intro W x _
   refine (glyph_blank.calls _ _ W (glyph_blank_is x)).mono ?_
   rintro e w' ⟨rfl, ⟨n, rfl⟩⟩
   exact ⟨rfl, n, rfl⟩
  have HP := hid hp
  clear hp
  go_enter Tryz.func23, Tryz.ntmps23
  go_wp2_with (go_at_call 54; refine (Tryz.strings_FieldsFunc 55 #[] (enters_of Tryz.func55 (by kernel_rfl) rfl) Pl.blank a0 _ hs HP.out).mono ?_; rintro e W1 ⟨Ad, rfl, hA, hown, hbw⟩)
  go_ret
  refine ⟨_, rfl, ?_, hbw⟩
  rw [← HR.out]
  exact Kd.R_of_own hown (fun _ _ => trivial)
 rw [if_neg hs] at h
 exact absurd h (by simp)
end Go.Proofs.YtcndmhpeolbepaaGreatDoor.Fn
namespace Go.Proofs.YtcndmhpeolbepaaGreatDoor.Fn
attribute [local go_sem] max2_int min2_int max_two min_two max_three min_three max_four min_four
def head_same.f (a0 : ByteArray) (a1 : ByteArray) : Option (Bool) := (glyph_Fold.f a0).bind fun t439 => ((glyph_Fold.f a1).bind fun t440 => (some (t439.toList == t440.toList)))
set_option maxRecDepth 100000 in
theorem head_same.calls (a0 : ByteArray) (a1 : ByteArray) (r : Bool) (w : World) (h : head_same.f a0 a1 = some r) :
  Calls Tryz.prog 47 #[.string a0, .string a1] w fun e w' => e = .returned (.bool r) ∧ Below w.heap.size w w' := by
 have HB := Aside0.mk (Below.refl w.heap.size w); have H : ((glyph_Fold.f a0).bind fun t439 => ((glyph_Fold.f a1).bind fun t440 => (some (t439.toList == t440.toList)))) = some r := h; clear h; replace H := Option.bind_eq_some_iff.mp H; obtain ⟨t439, A30, H⟩ := H; have A3 := Aside0.mk A30; clear A30; replace H := Option.bind_eq_some_iff.mp H; obtain ⟨t440, A40, H⟩ := H; have A4 := Aside0.mk A40; clear A40; obtain rfl := Option.some.inj H
 go_enter Tryz.func47, Tryz.ntmps47
 go_wp2_with (first | ((with_reducible refine gate_callee (f := 18) rfl ?_); refine goesL_ (some 6) rfl rfl Tryz.func18 (by kernel_rfl) rfl #[.string a0] rfl am ?_; (with_reducible refine (glyph_Fold.calls a0 t439 _ A3.out).mono ?_); rintro e w5 ⟨rfl, hb⟩; refine ⟨_, rfl, ?_⟩; have n0_ := Aside0.mk (below_step bw hb); clear HB; have HB := n0_; clear n0_; (try clear hb); (try clear hb2); (try clear hk); (try clear hi)) | ((with_reducible refine gate_callee (f := 18) rfl ?_); refine goesL_ (some 8) rfl rfl Tryz.func18 (by kernel_rfl) rfl #[.string a1] rfl am ?_; (with_reducible refine (glyph_Fold.calls a1 t440 _ A4.out).mono ?_); rintro e w6 ⟨rfl, hb⟩; refine ⟨_, rfl, ?_⟩; have n0_ := Aside0.mk (below_step bw hb); clear HB; have HB := n0_; clear n0_; (try clear hb); (try clear hb2); (try clear hk); (try clear hi)))
 go_ret
 exact ⟨ew, bw⟩
def head_Get.l0 : Nat → ByteArray → List (S54) → Int → Int → Option (ByteArray × Bool)
 | 0, _, _, _, _ => none
 | k + 1, x1, x8, x9, x10 => if x10 < x9 then (if 0 ≤ x10 then (if x10 < (x8.length : Int) then ((head_same.f ((rd_T54 x8 x10).f0) x1).bind fun t567 => (if t567 = true then (some ((rd_T54 x8 x10).f1, true)) else (head_Get.l0 k x1 x8 x9 (wrap64 (x10 + 1))))) else (none)) else (none)) else (some ((⟨#[]⟩ : ByteArray), false))
def head_Get.f (k : Nat) (l0 : List (S54)) (a1 : ByteArray) : Option (ByteArray × Bool) := head_Get.l0 k a1 l0 (l0.length : Int) 0
theorem head_Get.mono_l : ∀ k, (∀ y0 y1 y2 y3, LeO (head_Get.l0 k y0 y1 y2 y3) (head_Get.l0 (k + 1) y0 y1 y2 y3))
 | 0 => fun _ _ _ _ r h => by simp [head_Get.l0] at h
 | k + 1 => by
  have ih0 := head_Get.mono_l k
  ·intro y0 y1 y2 y3; unfold head_Get.l0
   repeat' first
   | (with_reducible exact ih0 _ _ _ _)
   | (with_reducible exact LeO.refl _)
   | (with_reducible exact LeO.none _)
   | (with_reducible refine LeO.ite ?_ ?_)
   | (with_reducible refine LeO.bind ?_ (fun _ => ?_))
   | exact ih0 _ _ _ _
   | exact LeO.none _
   | refine LeO.ite ?_ ?_
   | refine LeO.bind ?_ (fun _ => ?_)
theorem head_Get.mono : ∀ a0 a1 k, LeO (head_Get.f k a0 a1) (head_Get.f (k + 1) a0 a1) := by
 intro a0 a1 k; have ih0 := head_Get.mono_l k; unfold head_Get.f
 repeat' first
   | (with_reducible exact ih0 _ _ _ _)
   | (with_reducible exact LeO.refl _)
   | (with_reducible exact LeO.none _)
   | (with_reducible refine LeO.ite ?_ ?_)
   | (with_reducible refine LeO.bind ?_ (fun _ => ?_))
   | exact ih0 _ _ _ _
   | exact LeO.none _
   | refine LeO.ite ?_ ?_
   | refine LeO.bind ?_ (fun _ => ?_)
set_option maxRecDepth 100000 in
theorem head_Get.calls (k : Nat) (A0 : Option Addr) (c0 : Nat) (l0 : List (S54)) (a1 : ByteArray) (r1 : ByteArray) (r2 : Bool) (w : World) (hr0 : Kd.C k54 w A0 l0.length l0) (hc0 : l0.length ≤ c0) (h : head_Get.f k l0 a1 = some (r1, r2)) :
  Calls Tryz.prog 84 #[.slice A0 l0.length c0, .string a1] w fun e w' => e = .returned (.tuple #[.string r1, .bool r2]) ∧ Below w.heap.size w w' := by
 have hu54 := Tryz.underlying54; have HR0 := Aside0.mk hr0; have HC0 := Aside0.mk hc0; clear hr0 hc0; have HB := Aside0.mk (Below.refl w.heap.size w); have H : (head_Get.l0 k a1 l0 (l0.length : Int) 0) = some (r1, r2) := h; clear h; have H' := Aside0.mk H; clear H
 go_enter Tryz.func84, Tryz.ntmps84
 go_wp2
 go_loopg [10] k (fun kq v10 w' => ∃ (x10_1 : Int), v10 = .int .i64 x10_1 ∧ Aside0 (head_Get.l0 kq a1 l0 (l0.length : Int) x10_1 = some (r1, r2)) ∧ Aside0 (kq ≤ k) ∧ Aside0 (Below w.heap.size w w'))
 case atStart => exact ⟨(0), cl, H', ⟨Nat.le_refl _⟩, ⟨bw⟩⟩
 case round =>
  clear H'
  try clear p2
  obtain ⟨x10_1, rfl, HA, HK1, HB⟩ := hrel; cases gk with
  | zero => exact absurd HA.out (by simp [head_Get.l0])
  | succ k1 =>
   have H := HA.out; clear HA; simp only [head_Get.l0] at H
   by_cases c3 : x10_1 < (l0.length : Int)
   ·rw [if_pos c3] at H; have c3b0 := decide_eq_true c3; clear c3
    by_cases c4 : 0 ≤ x10_1
    ·rw [if_pos c4] at H; have c4b0 := decide_eq_true c4; clear c4
     by_cases c5 : x10_1 < (l0.length : Int)
     ·rw [if_pos c5] at H; have c5b0 := decide_eq_true c5; clear c5; replace H := Option.bind_eq_some_iff.mp H; obtain ⟨t567, A60, H⟩ := H; have A6 := Aside0.mk A60; clear A60
      by_cases c7 : t567 = true
      ·subst c7; rw [if_pos rfl] at H; simp only [Option.some.injEq, Prod.mk.injEq] at H; obtain ⟨rfl, rfl⟩ := H; have p565 : 0 ≤ (x10_1 : Int) := od; have q565 : x10_1 < (l0.length : Int) := od; obtain ⟨ad565, e565, hx565_0, hx565_1⟩ := at_T54 HR0.out x10_1 p565 q565; cases e565; replace hx565_0 := hbc HB hx565_0; replace hx565_1 := hbc HB hx565_1; replace p565 := eq_true p565; replace q565 := eq_true q565
       go_wp2_with (first | ((with_reducible refine gate_dst (N := 7) rfl ?_); refine box_event ?hg (N := 7) ?hd (cs := #[.string (⟨#[]⟩ : ByteArray), .string (⟨#[]⟩ : ByteArray)]) (t := 54) ?hr ?_; (case hd => rfl); (case hg => rfl); (case hr => first | (go_simp; done) | (go_simp; rfl)); intro gb566 hg w8 hbox hb; have n0_ := Aside0.mk (below_step bw hb); have n1_ := Aside0.mk (hbox); have n2_ := Aside0.mk ((by rw [hg]; exact (below_size bw) : w.heap.size ≤ gb566)); have n3_ := Aside0.mk ((by rw [hg]; exact (below_size bw) : w.heap.size ≤ gb566)); clear HB; have HB := n0_; have BK566 := n1_; have GW566 := n2_; have GE566 := n3_; clear n0_ n1_ n2_ n3_; clear hb hbox hg; obtain ⟨hcz9_0, hcz9_1⟩ := ce2 BK566; obtain ⟨hfz9_0, hfz9_1⟩ := fz2 BK566) | ((with_reducible refine gate_callee (f := 47) rfl ?_); refine goesL_ (some 17) rfl rfl Tryz.func47 (by kernel_rfl) rfl #[.string ((rd_T54 l0 x10_1).f0), .string a1] rfl am ?_; (with_reducible refine (head_same.calls ((rd_T54 l0 x10_1).f0) a1 true _ A6.out).mono ?_); rintro e w10 ⟨rfl, hb⟩; refine ⟨_, rfl, ?_⟩; have n0_ := Aside0.mk (blk_below (g := gb566) (o := .cells #[.string ((rd_T54 l0 x10_1).f0), .string ((rd_T54 l0 x10_1).f1)] 54 (0, 0)) (by (with_reducible repeat (first | refine blk_drewN ?_ _ | refine blk_drew ?_ | refine blk_alloc ?_ _)); refine blk_put (cs := #[.string ((rd_T54 l0 x10_1).f0), .string (⟨#[]⟩ : ByteArray)]) ?_ 1 _ rfl; (with_reducible repeat (first | refine blk_drewN ?_ _ | refine blk_drew ?_ | refine blk_alloc ?_ _)); exact blk_put (cs := #[.string (⟨#[]⟩ : ByteArray), .string (⟨#[]⟩ : ByteArray)]) bk 0 _ rfl) hb); have n1_ := Aside0.mk (below_step bwS hb); clear BK566; clear HB; have BK566 := n0_; have HB := n1_; clear n0_ n1_; (try clear hb); (try clear hb2); (try clear hk); (try clear hi); obtain ⟨hcz11_0, hcz11_1⟩ := ce2 BK566; obtain ⟨hfz11_0, hfz11_1⟩ := fz2 BK566))
       go_ret2
       exact ⟨ew, bwS⟩
      replace c7 := Bool.eq_false_iff.mpr c7; subst c7; rw [if_neg nft] at H; have H' := Aside0.mk H; clear H; have p565 : 0 ≤ (x10_1 : Int) := od; have q565 : x10_1 < (l0.length : Int) := od; obtain ⟨ad565, e565, hx565_0, hx565_1⟩ := at_T54 HR0.out x10_1 p565 q565; cases e565; replace hx565_0 := hbc HB hx565_0; replace hx565_1 := hbc HB hx565_1; replace p565 := eq_true p565; replace q565 := eq_true q565
      go_wp2_with (first | ((with_reducible refine gate_dst (N := 7) rfl ?_); refine box_event ?hg (N := 7) ?hd (cs := #[.string (⟨#[]⟩ : ByteArray), .string (⟨#[]⟩ : ByteArray)]) (t := 54) ?hr ?_; (case hd => rfl); (case hg => rfl); (case hr => first | (go_simp; done) | (go_simp; rfl)); intro gb566 hg w12 hbox hb; have n0_ := Aside0.mk (below_step bw hb); have n1_ := Aside0.mk (hbox); have n2_ := Aside0.mk ((by rw [hg]; exact (below_size bw) : w.heap.size ≤ gb566)); have n3_ := Aside0.mk ((by rw [hg]; exact (below_size bw) : w.heap.size ≤ gb566)); clear HB; have HB := n0_; have BK566 := n1_; have GW566 := n2_; have GE566 := n3_; clear n0_ n1_ n2_ n3_; clear hb hbox hg; obtain ⟨hcz13_0, hcz13_1⟩ := ce2 BK566; obtain ⟨hfz13_0, hfz13_1⟩ := fz2 BK566) | ((with_reducible refine gate_callee (f := 47) rfl ?_); refine goesL_ (some 17) rfl rfl Tryz.func47 (by kernel_rfl) rfl #[.string ((rd_T54 l0 x10_1).f0), .string a1] rfl am ?_; (with_reducible refine (head_same.calls ((rd_T54 l0 x10_1).f0) a1 false _ A6.out).mono ?_); rintro e w14 ⟨rfl, hb⟩; refine ⟨_, rfl, ?_⟩; have n0_ := Aside0.mk (blk_below (g := gb566) (o := .cells #[.string ((rd_T54 l0 x10_1).f0), .string ((rd_T54 l0 x10_1).f1)] 54 (0, 0)) (by (with_reducible repeat (first | refine blk_drewN ?_ _ | refine blk_drew ?_ | refine blk_alloc ?_ _)); refine blk_put (cs := #[.string ((rd_T54 l0 x10_1).f0), .string (⟨#[]⟩ : ByteArray)]) ?_ 1 _ rfl; (with_reducible repeat (first | refine blk_drewN ?_ _ | refine blk_drew ?_ | refine blk_alloc ?_ _)); exact blk_put (cs := #[.string (⟨#[]⟩ : ByteArray), .string (⟨#[]⟩ : ByteArray)]) bk 0 _ rfl) hb); have n1_ := Aside0.mk (below_step bwS hb); clear BK566; clear HB; have BK566 := n0_; have HB := n1_; clear n0_ n1_; (try clear hb); (try clear hb2); (try clear hk); (try clear hi)))
      go_roundg k1
      case measure => have := HK1.out; omega
      case rel => exact ⟨(wrap64 (x10_1 + 1)), cl, H', ⟨by have := HK1.out; omega⟩, ⟨bwS⟩⟩
     rw [if_neg c5] at H; exact absurd H (by simp)
    rw [if_neg c4] at H; exact absurd H (by simp)
   rw [if_neg c3] at H; have c3b0 := decide_eq_false c3; clear c3; simp only [Option.some.injEq, Prod.mk.injEq] at H; obtain ⟨rfl, rfl⟩ := H
   go_wp2
   go_ret2
   exact ⟨ew, bw⟩
def msg_Message_Get.f (k : Nat) (l0_0 : List (S54)) (a0_1 : ByteArray) (a1 : ByteArray) : Option (ByteArray) := (head_Get.f k l0_0 a1).bind fun bt569 => (some bt569.1)
theorem msg_Message_Get.mono : ∀ a0 a1 a2 k, LeO (msg_Message_Get.f k a0 a1 a2) (msg_Message_Get.f (k + 1) a0 a1 a2) := by
 intro a0 a1 a2 k; unfold msg_Message_Get.f
 repeat' first
   | (with_reducible exact head_Get.mono _ _ _)
   | (with_reducible exact LeO.refl _)
   | (with_reducible exact LeO.none _)
   | (with_reducible refine LeO.ite ?_ ?_)
   | (with_reducible refine LeO.bind ?_ (fun _ => ?_))
   | exact head_Get.mono _ _ _
   | exact LeO.none _
   | refine LeO.ite ?_ ?_
   | refine LeO.bind ?_ (fun _ => ?_)
set_option maxRecDepth 100000 in
theorem msg_Message_Get.calls (k : Nat) (A0_0 : Option Addr) (c0_0 : Nat) (l0_0 : List (S54)) (a0_1 : ByteArray) (a1 : ByteArray) (r : ByteArray) (w : World) (hr0_0 : Kd.C k54 w A0_0 l0_0.length l0_0) (hc0_0 : l0_0.length ≤ c0_0) (h : msg_Message_Get.f k l0_0 a0_1 a1 = some r) :
  Calls Tryz.prog 41 #[.agg #[.slice A0_0 l0_0.length c0_0, .string a0_1], .string a1] w fun e w' => e = .returned (.string r) ∧ Below w.heap.size w w' := by
 have hu28 := Tryz.underlying28; have HR0_0 := Aside0.mk hr0_0; have HC0_0 := Aside0.mk hc0_0; clear hr0_0 hc0_0; have HB := Aside0.mk (Below.refl w.heap.size w); have H : ((head_Get.f k l0_0 a1).bind fun bt569 => (some bt569.1)) = some r := h; clear h; replace H := Option.bind_eq_some_iff.mp H; obtain ⟨⟨t569, t570⟩, A30, H⟩ := H; replace H : (some t569) = some r := H; have A3 := Aside0.mk A30; clear A30; obtain rfl := Option.some.inj H
 go_enter Tryz.func41, Tryz.ntmps41
 go_wp2_with (first | ((with_reducible refine gate_dst (N := 2) rfl ?_); refine box_event ?hg (N := 2) ?hd (cs := #[.slice A0_0 l0_0.length c0_0, .string a0_1]) (t := 28) ?hr ?_; (case hd => rfl); (case hg => rfl); (case hr => first | (go_simp; done) | (go_simp; rfl)); intro gb568 hg w4 hbox hb; have n0_ := Aside0.mk (below_step bw hb); have n1_ := Aside0.mk (hbox); have n2_ := Aside0.mk ((by rw [hg]; exact (below_size bw) : w.heap.size ≤ gb568)); have n3_ := Aside0.mk ((by rw [hg]; exact (below_size bw) : w.heap.size ≤ gb568)); clear HB; have HB := n0_; have BK568 := n1_; have GW568 := n2_; have GE568 := n3_; clear n0_ n1_ n2_ n3_; clear hb hbox hg; obtain ⟨hcz5_0, hcz5_1⟩ := ce2 BK568; obtain ⟨hfz5_0, hfz5_1⟩ := fz2 BK568) | ((with_reducible refine gate_callee (f := 84) rfl ?_); refine goesL_ (some 11) rfl rfl Tryz.func84 (by kernel_rfl) rfl #[.slice A0_0 l0_0.length c0_0, .string a1] rfl am ?_; (with_reducible refine (head_Get.calls k _ _ l0_0 a1 t569 t570 _ ?side1 ?side2 A3.out).mono ?_); (case side1 => repeat (first | exact (Kd.C_below HR0_0.out HB.out) | (with_reducible refine Kd.C_alloc ?_ _) | (with_reducible refine Kd.C_drewN ?_ _) | (with_reducible refine Kd.C_drew ?_))); (case side2 => exact HC0_0.out); rintro e w6 ⟨rfl, hb⟩; refine ⟨_, rfl, ?_⟩; have n0_ := Aside0.mk (blk_below (g := gb568) (o := .cells #[.slice A0_0 l0_0.length c0_0, .string a0_1] 28 (0, 0)) bk hb); have n1_ := Aside0.mk (below_step bwS hb); clear BK568; clear HB; have BK568 := n0_; have HB := n1_; clear n0_ n1_; (try clear hb); (try clear hb2); (try clear hk); (try clear hi)))
 go_ret
 exact ⟨ew, bwS⟩
def lex_atomic.f (a0 : Int) : Option (Bool) := if a0 ≥ 97 then (if a0 ≤ 122 then (some true) else (if a0 ≥ 65 then (if a0 ≤ 90 then (some true) else (if a0 ≥ 48 then (if a0 ≤ 57 then (some true) else (if a0 > 127 then (some true) else ((strings_IndexByte.f (⟨#[33, 35, 36, 37, 38, 39, 42, 43, 45, 47, 61, 63, 94, 95, 96, 123, 124, 125, 126]⟩ : ByteArray) a0).bind fun t220 => (some (decide (t220 ≥ 0)))))) else (if a0 > 127 then (some true) else ((strings_IndexByte.f (⟨#[33, 35, 36, 37, 38, 39, 42, 43, 45, 47, 61, 63, 94, 95, 96, 123, 124, 125, 126]⟩ : ByteArray) a0).bind fun t221 => (some (decide (t221 ≥ 0))))))) else (if a0 ≥ 48 then (if a0 ≤ 57 then (some true) else (if a0 > 127 then (some true) else ((strings_IndexByte.f (⟨#[33, 35, 36, 37, 38, 39, 42, 43, 45, 47, 61, 63, 94, 95, 96, 123, 124, 125, 126]⟩ : ByteArray) a0).bind fun t222 => (some (decide (t222 ≥ 0)))))) else (if a0 > 127 then (some true) else ((strings_IndexByte.f (⟨#[33, 35, 36, 37, 38, 39, 42, 43, 45, 47, 61, 63, 94, 95, 96, 123, 124, 125, 126]⟩ : ByteArray) a0).bind fun t223 => (some (decide (t223 ≥ 0)))))))) else (if a0 ≥ 65 then (if a0 ≤ 90 then (some true) else (if a0 ≥ 48 then (if a0 ≤ 57 then (some true) else (if a0 > 127 then (some true) else ((strings_IndexByte.f (⟨#[33, 35, 36, 37, 38, 39, 42, 43, 45, 47, 61, 63, 94, 95, 96, 123, 124, 125, 126]⟩ : ByteArray) a0).bind fun t224 => (some (decide (t224 ≥ 0)))))) else (if a0 > 127 then (some true) else ((strings_IndexByte.f (⟨#[33, 35, 36, 37, 38, 39, 42, 43, 45, 47, 61, 63, 94, 95, 96, 123, 124, 125, 126]⟩ : ByteArray) a0).bind fun t225 => (some (decide (t225 ≥ 0))))))) else (if a0 ≥ 48 then (if a0 ≤ 57 then (some true) else (if a0 > 127 then (some true) else ((strings_IndexByte.f (⟨#[33, 35, 36, 37, 38, 39, 42, 43, 45, 47, 61, 63, 94, 95, 96, 123, 124, 125, 126]⟩ : ByteArray) a0).bind fun t226 => (some (decide (t226 ≥ 0)))))) else (if a0 > 127 then (some true) else ((strings_IndexByte.f (⟨#[33, 35, 36, 37, 38, 39, 42, 43, 45, 47, 61, 63, 94, 95, 96, 123, 124, 125, 126]⟩ : ByteArray) a0).bind fun t227 => (some (decide (t227 ≥ 0)))))))
set_option maxRecDepth 100000 in
theorem lex_atomic.calls (a0 : Int) (r : Bool) (w : World) (h : lex_atomic.f a0 = some r) :
  Calls Tryz.prog 142 #[.int .u8 a0] w fun e w' => e = .returned (.bool r) ∧ Drawn0 w w' := by
 have H : (if a0 ≥ 97 then (if a0 ≤ 122 then (some true) else (if a0 ≥ 65 then (if a0 ≤ 90 then (some true) else (if a0 ≥ 48 then (if a0 ≤ 57 then (some true) else (if a0 > 127 then (some true) else ((strings_IndexByte.f (⟨#[33, 35, 36, 37, 38, 39, 42, 43, 45, 47, 61, 63, 94, 95, 96, 123, 124, 125, 126]⟩ : ByteArray) a0).bind fun t220 => (some (decide (t220 ≥ 0)))))) else (if a0 > 127 then (some true) else ((strings_IndexByte.f (⟨#[33, 35, 36, 37, 38, 39, 42, 43, 45, 47, 61, 63, 94, 95, 96, 123, 124, 125, 126]⟩ : ByteArray) a0).bind fun t221 => (some (decide (t221 ≥ 0))))))) else (if a0 ≥ 48 then (if a0 ≤ 57 then (some true) else (if a0 > 127 then (some true) else ((strings_IndexByte.f (⟨#[33, 35, 36, 37, 38, 39, 42, 43, 45, 47, 61, 63, 94, 95, 96, 123, 124, 125, 126]⟩ : ByteArray) a0).bind fun t222 => (some (decide (t222 ≥ 0)))))) else (if a0 > 127 then (some true) else ((strings_IndexByte.f (⟨#[33, 35, 36, 37, 38, 39, 42, 43, 45, 47, 61, 63, 94, 95, 96, 123, 124, 125, 126]⟩ : ByteArray) a0).bind fun t223 => (some (decide (t223 ≥ 0)))))))) else (if a0 ≥ 65 then (if a0 ≤ 90 then (some true) else (if a0 ≥ 48 then (if a0 ≤ 57 then (some true) else (if a0 > 127 then (some true) else ((strings_IndexByte.f (⟨#[33, 35, 36, 37, 38, 39, 42, 43, 45, 47, 61, 63, 94, 95, 96, 123, 124, 125, 126]⟩ : ByteArray) a0).bind fun t224 => (some (decide (t224 ≥ 0)))))) else (if a0 > 127 then (some true) else ((strings_IndexByte.f (⟨#[33, 35, 36, 37, 38, 39, 42, 43, 45, 47, 61, 63, 94, 95, 96, 123, 124, 125, 126]⟩ : ByteArray) a0).bind fun t225 => (some (decide (t225 ≥ 0))))))) else (if a0 ≥ 48 then (if a0 ≤ 57 then (some true) else (if a0 > 127 then (some true) else ((strings_IndexByte.f (⟨#[33, 35, 36, 37, 38, 39, 42, 43, 45, 47, 61, 63, 94, 95, 96, 123, 124, 125, 126]⟩ : ByteArray) a0).bind fun t226 => (some (decide (t226 ≥ 0)))))) else (if a0 > 127 then (some true) else ((strings_IndexByte.f (⟨#[33, 35, 36, 37, 38, 39, 42, 43, 45, 47, 61, 63, 94, 95, 96, 123, 124, 125, 126]⟩ : ByteArray) a0).bind fun t227 => (some (decide (t227 ≥ 0)))))))) = some r := h; clear h
 by_cases c2 : a0 ≥ 97
 ·rw [if_pos c2] at H; have c2b0 : decide (97 ≤ a0) = true := decide_eq_true c2; clear c2
  by_cases c3 : a0 ≤ 122
  ·rw [if_pos c3] at H; have c3b0 := decide_eq_true c3; clear c3; obtain rfl := Option.some.inj H
   go_enter Tryz.func142, Tryz.ntmps142
   go_wp2
   go_ret
   exact ⟨cl, d0⟩
  rw [if_neg c3] at H; have c3b0 := decide_eq_false c3; clear c3
  by_cases c4 : a0 ≥ 65
  ·rw [if_pos c4] at H; have c4b0 : decide (65 ≤ a0) = true := decide_eq_true c4; clear c4
   by_cases c5 : a0 ≤ 90
   ·rw [if_pos c5] at H; have c5b0 := decide_eq_true c5; clear c5; obtain rfl := Option.some.inj H
    go_enter Tryz.func142, Tryz.ntmps142
    go_wp2
    go_ret
    exact ⟨cl, d0⟩
   rw [if_neg c5] at H; have c5b0 := decide_eq_false c5; clear c5
   by_cases c6 : a0 ≥ 48
   ·rw [if_pos c6] at H; have c6b0 : decide (48 ≤ a0) = true := decide_eq_true c6; clear c6
    by_cases c7 : a0 ≤ 57
    ·rw [if_pos c7] at H; have c7b0 := decide_eq_true c7; clear c7; obtain rfl := Option.some.inj H
     go_enter Tryz.func142, Tryz.ntmps142
     go_wp2
     go_ret
     exact ⟨cl, d0⟩
    rw [if_neg c7] at H; have c7b0 := decide_eq_false c7; clear c7
    by_cases c8 : a0 > 127
    ·rw [if_pos c8] at H; have c8b0 : decide (127 < a0) = true := decide_eq_true c8; clear c8; obtain rfl := Option.some.inj H
     go_enter Tryz.func142, Tryz.ntmps142
     go_wp2
     go_ret
     exact ⟨cl, d0⟩
    rw [if_neg c8] at H; have c8b0 : decide (127 < a0) = false := decide_eq_false c8; clear c8; replace H := Option.bind_eq_some_iff.mp H; obtain ⟨t220, A90, H⟩ := H; have A9 := Aside0.mk A90; clear A90; obtain rfl := Option.some.inj H
    go_enter Tryz.func142, Tryz.ntmps142
    go_wp2_with (first | ((with_reducible refine gate_callee (f := 172) rfl ?_); refine goesL_ (some 31) rfl rfl Tryz.func172 (by kernel_rfl) rfl #[.string (⟨#[33, 35, 36, 37, 38, 39, 42, 43, 45, 47, 61, 63, 94, 95, 96, 123, 124, 125, 126]⟩ : ByteArray), .int .u8 a0] rfl am ?_; (with_reducible refine (strings_IndexByte.calls (⟨#[33, 35, 36, 37, 38, 39, 42, 43, 45, 47, 61, 63, 94, 95, 96, 123, 124, 125, 126]⟩ : ByteArray) a0 t220 _ A9.out).mono ?_); rintro e w' ⟨rfl, ⟨nd, rfl⟩⟩; refine ⟨_, rfl, ?_⟩))
    go_ret
    exact ⟨cl, d0⟩
   rw [if_neg c6] at H; have c6b0 : decide (48 ≤ a0) = false := decide_eq_false c6; clear c6
   by_cases c10 : a0 > 127
   ·rw [if_pos c10] at H; have c10b0 : decide (127 < a0) = true := decide_eq_true c10; clear c10; obtain rfl := Option.some.inj H
    go_enter Tryz.func142, Tryz.ntmps142
    go_wp2
    go_ret
    exact ⟨cl, d0⟩
   rw [if_neg c10] at H; have c10b0 : decide (127 < a0) = false := decide_eq_false c10; clear c10; replace H := Option.bind_eq_some_iff.mp H; obtain ⟨t221, A110, H⟩ := H; have A11 := Aside0.mk A110; clear A110; obtain rfl := Option.some.inj H
   go_enter Tryz.func142, Tryz.ntmps142
   go_wp2_with (first | ((with_reducible refine gate_callee (f := 172) rfl ?_); refine goesL_ (some 31) rfl rfl Tryz.func172 (by kernel_rfl) rfl #[.string (⟨#[33, 35, 36, 37, 38, 39, 42, 43, 45, 47, 61, 63, 94, 95, 96, 123, 124, 125, 126]⟩ : ByteArray), .int .u8 a0] rfl am ?_; (with_reducible refine (strings_IndexByte.calls (⟨#[33, 35, 36, 37, 38, 39, 42, 43, 45, 47, 61, 63, 94, 95, 96, 123, 124, 125, 126]⟩ : ByteArray) a0 t221 _ A11.out).mono ?_); rintro e w' ⟨rfl, ⟨nd, rfl⟩⟩; refine ⟨_, rfl, ?_⟩))
   go_ret
   exact ⟨cl, d0⟩
  rw [if_neg c4] at H; have c4b0 : decide (65 ≤ a0) = false := decide_eq_false c4; clear c4
  by_cases c12 : a0 ≥ 48
  ·rw [if_pos c12] at H; have c12b0 : decide (48 ≤ a0) = true := decide_eq_true c12; clear c12
   by_cases c13 : a0 ≤ 57
   ·rw [if_pos c13] at H; have c13b0 := decide_eq_true c13; clear c13; obtain rfl := Option.some.inj H
    go_enter Tryz.func142, Tryz.ntmps142
    go_wp2
    go_ret
    exact ⟨cl, d0⟩
   rw [if_neg c13] at H; have c13b0 := decide_eq_false c13; clear c13
   by_cases c14 : a0 > 127
   ·rw [if_pos c14] at H; have c14b0 : decide (127 < a0) = true := decide_eq_true c14; clear c14; obtain rfl := Option.some.inj H
    go_enter Tryz.func142, Tryz.ntmps142
    go_wp2
    go_ret
    exact ⟨cl, d0⟩
   rw [if_neg c14] at H; have c14b0 : decide (127 < a0) = false := decide_eq_false c14; clear c14; replace H := Option.bind_eq_some_iff.mp H; obtain ⟨t222, A150, H⟩ := H; have A15 := Aside0.mk A150; clear A150; obtain rfl := Option.some.inj H
   go_enter Tryz.func142, Tryz.ntmps142
   go_wp2_with (first | ((with_reducible refine gate_callee (f := 172) rfl ?_); refine goesL_ (some 31) rfl rfl Tryz.func172 (by kernel_rfl) rfl #[.string (⟨#[33, 35, 36, 37, 38, 39, 42, 43, 45, 47, 61, 63, 94, 95, 96, 123, 124, 125, 126]⟩ : ByteArray), .int .u8 a0] rfl am ?_; (with_reducible refine (strings_IndexByte.calls (⟨#[33, 35, 36, 37, 38, 39, 42, 43, 45, 47, 61, 63, 94, 95, 96, 123, 124, 125, 126]⟩ : ByteArray) a0 t222 _ A15.out).mono ?_); rintro e w' ⟨rfl, ⟨nd, rfl⟩⟩; refine ⟨_, rfl, ?_⟩))
   go_ret
   exact ⟨cl, d0⟩
  rw [if_neg c12] at H; have c12b0 : decide (48 ≤ a0) = false := decide_eq_false c12; clear c12
  by_cases c16 : a0 > 127
  ·rw [if_pos c16] at H; have c16b0 : decide (127 < a0) = true := decide_eq_true c16; clear c16; obtain rfl := Option.some.inj H
   go_enter Tryz.func142, Tryz.ntmps142
   go_wp2
   go_ret
   exact ⟨cl, d0⟩
  rw [if_neg c16] at H; have c16b0 : decide (127 < a0) = false := decide_eq_false c16; clear c16; replace H := Option.bind_eq_some_iff.mp H; obtain ⟨t223, A170, H⟩ := H; have A17 := Aside0.mk A170; clear A170; obtain rfl := Option.some.inj H
  go_enter Tryz.func142, Tryz.ntmps142
  go_wp2_with (first | ((with_reducible refine gate_callee (f := 172) rfl ?_); refine goesL_ (some 31) rfl rfl Tryz.func172 (by kernel_rfl) rfl #[.string (⟨#[33, 35, 36, 37, 38, 39, 42, 43, 45, 47, 61, 63, 94, 95, 96, 123, 124, 125, 126]⟩ : ByteArray), .int .u8 a0] rfl am ?_; (with_reducible refine (strings_IndexByte.calls (⟨#[33, 35, 36, 37, 38, 39, 42, 43, 45, 47, 61, 63, 94, 95, 96, 123, 124, 125, 126]⟩ : ByteArray) a0 t223 _ A17.out).mono ?_); rintro e w' ⟨rfl, ⟨nd, rfl⟩⟩; refine ⟨_, rfl, ?_⟩))
  go_ret
  exact ⟨cl, d0⟩
 rw [if_neg c2] at H; have c2b0 : decide (97 ≤ a0) = false := decide_eq_false c2; clear c2
 by_cases c18 : a0 ≥ 65
 ·rw [if_pos c18] at H; have c18b0 : decide (65 ≤ a0) = true := decide_eq_true c18; clear c18
  by_cases c19 : a0 ≤ 90
  ·rw [if_pos c19] at H; have c19b0 := decide_eq_true c19; clear c19; obtain rfl := Option.some.inj H
   go_enter Tryz.func142, Tryz.ntmps142
   go_wp2
   go_ret
   exact ⟨cl, d0⟩
  rw [if_neg c19] at H; have c19b0 := decide_eq_false c19; clear c19
  by_cases c20 : a0 ≥ 48
  ·rw [if_pos c20] at H; have c20b0 : decide (48 ≤ a0) = true := decide_eq_true c20; clear c20
   by_cases c21 : a0 ≤ 57
   ·rw [if_pos c21] at H; have c21b0 := decide_eq_true c21; clear c21; obtain rfl := Option.some.inj H
    go_enter Tryz.func142, Tryz.ntmps142
    go_wp2
    go_ret
    exact ⟨cl, d0⟩
   rw [if_neg c21] at H; have c21b0 := decide_eq_false c21; clear c21
   by_cases c22 : a0 > 127
   ·rw [if_pos c22] at H; have c22b0 : decide (127 < a0) = true := decide_eq_true c22; clear c22; obtain rfl := Option.some.inj H
    go_enter Tryz.func142, Tryz.ntmps142
    go_wp2
    go_ret
    exact ⟨cl, d0⟩
   rw [if_neg c22] at H; have c22b0 : decide (127 < a0) = false := decide_eq_false c22; clear c22; replace H := Option.bind_eq_some_iff.mp H; obtain ⟨t224, A230, H⟩ := H; have A23 := Aside0.mk A230; clear A230; obtain rfl := Option.some.inj H
   go_enter Tryz.func142, Tryz.ntmps142
   go_wp2_with (first | ((with_reducible refine gate_callee (f := 172) rfl ?_); refine goesL_ (some 31) rfl rfl Tryz.func172 (by kernel_rfl) rfl #[.string (⟨#[33, 35, 36, 37, 38, 39, 42, 43, 45, 47, 61, 63, 94, 95, 96, 123, 124, 125, 126]⟩ : ByteArray), .int .u8 a0] rfl am ?_; (with_reducible refine (strings_IndexByte.calls (⟨#[33, 35, 36, 37, 38, 39, 42, 43, 45, 47, 61, 63, 94, 95, 96, 123, 124, 125, 126]⟩ : ByteArray) a0 t224 _ A23.out).mono ?_); rintro e w' ⟨rfl, ⟨nd, rfl⟩⟩; refine ⟨_, rfl, ?_⟩))
   go_ret
   exact ⟨cl, d0⟩
  rw [if_neg c20] at H; have c20b0 : decide (48 ≤ a0) = false := decide_eq_false c20; clear c20
  by_cases c24 : a0 > 127
  ·rw [if_pos c24] at H; have c24b0 : decide (127 < a0) = true := decide_eq_true c24; clear c24; obtain rfl := Option.some.inj H
   go_enter Tryz.func142, Tryz.ntmps142
   go_wp2
   go_ret
   exact ⟨cl, d0⟩
  rw [if_neg c24] at H; have c24b0 : decide (127 < a0) = false := decide_eq_false c24; clear c24; replace H := Option.bind_eq_some_iff.mp H; obtain ⟨t225, A250, H⟩ := H; have A25 := Aside0.mk A250; clear A250; obtain rfl := Option.some.inj H
  go_enter Tryz.func142, Tryz.ntmps142
  go_wp2_with (first | ((with_reducible refine gate_callee (f := 172) rfl ?_); refine goesL_ (some 31) rfl rfl Tryz.func172 (by kernel_rfl) rfl #[.string (⟨#[33, 35, 36, 37, 38, 39, 42, 43, 45, 47, 61, 63, 94, 95, 96, 123, 124, 125, 126]⟩ : ByteArray), .int .u8 a0] rfl am ?_; (with_reducible refine (strings_IndexByte.calls (⟨#[33, 35, 36, 37, 38, 39, 42, 43, 45, 47, 61, 63, 94, 95, 96, 123, 124, 125, 126]⟩ : ByteArray) a0 t225 _ A25.out).mono ?_); rintro e w' ⟨rfl, ⟨nd, rfl⟩⟩; refine ⟨_, rfl, ?_⟩))
  go_ret
  exact ⟨cl, d0⟩
 rw [if_neg c18] at H; have c18b0 : decide (65 ≤ a0) = false := decide_eq_false c18; clear c18
 by_cases c26 : a0 ≥ 48
 ·rw [if_pos c26] at H; have c26b0 : decide (48 ≤ a0) = true := decide_eq_true c26; clear c26
  by_cases c27 : a0 ≤ 57
  ·rw [if_pos c27] at H; have c27b0 := decide_eq_true c27; clear c27; obtain rfl := Option.some.inj H
   go_enter Tryz.func142, Tryz.ntmps142
   go_wp2
   go_ret
   exact ⟨cl, d0⟩
  rw [if_neg c27] at H; have c27b0 := decide_eq_false c27; clear c27
  by_cases c28 : a0 > 127
  ·rw [if_pos c28] at H; have c28b0 : decide (127 < a0) = true := decide_eq_true c28; clear c28; obtain rfl := Option.some.inj H
   go_enter Tryz.func142, Tryz.ntmps142
   go_wp2
   go_ret
   exact ⟨cl, d0⟩
  rw [if_neg c28] at H; have c28b0 : decide (127 < a0) = false := decide_eq_false c28; clear c28; replace H := Option.bind_eq_some_iff.mp H; obtain ⟨t226, A290, H⟩ := H; have A29 := Aside0.mk A290; clear A290; obtain rfl := Option.some.inj H
  go_enter Tryz.func142, Tryz.ntmps142
  go_wp2_with (first | ((with_reducible refine gate_callee (f := 172) rfl ?_); refine goesL_ (some 31) rfl rfl Tryz.func172 (by kernel_rfl) rfl #[.string (⟨#[33, 35, 36, 37, 38, 39, 42, 43, 45, 47, 61, 63, 94, 95, 96, 123, 124, 125, 126]⟩ : ByteArray), .int .u8 a0] rfl am ?_; (with_reducible refine (strings_IndexByte.calls (⟨#[33, 35, 36, 37, 38, 39, 42, 43, 45, 47, 61, 63, 94, 95, 96, 123, 124, 125, 126]⟩ : ByteArray) a0 t226 _ A29.out).mono ?_); rintro e w' ⟨rfl, ⟨nd, rfl⟩⟩; refine ⟨_, rfl, ?_⟩))
  go_ret
  exact ⟨cl, d0⟩
 rw [if_neg c26] at H; have c26b0 : decide (48 ≤ a0) = false := decide_eq_false c26; clear c26
 by_cases c30 : a0 > 127
 ·rw [if_pos c30] at H; have c30b0 : decide (127 < a0) = true := decide_eq_true c30; clear c30; obtain rfl := Option.some.inj H
  go_enter Tryz.func142, Tryz.ntmps142
  go_wp2
  go_ret
  exact ⟨cl, d0⟩
 rw [if_neg c30] at H; have c30b0 : decide (127 < a0) = false := decide_eq_false c30; clear c30; replace H := Option.bind_eq_some_iff.mp H; obtain ⟨t227, A310, H⟩ := H; have A31 := Aside0.mk A310; clear A310; obtain rfl := Option.some.inj H
 go_enter Tryz.func142, Tryz.ntmps142
 go_wp2_with (first | ((with_reducible refine gate_callee (f := 172) rfl ?_); refine goesL_ (some 31) rfl rfl Tryz.func172 (by kernel_rfl) rfl #[.string (⟨#[33, 35, 36, 37, 38, 39, 42, 43, 45, 47, 61, 63, 94, 95, 96, 123, 124, 125, 126]⟩ : ByteArray), .int .u8 a0] rfl am ?_; (with_reducible refine (strings_IndexByte.calls (⟨#[33, 35, 36, 37, 38, 39, 42, 43, 45, 47, 61, 63, 94, 95, 96, 123, 124, 125, 126]⟩ : ByteArray) a0 t227 _ A31.out).mono ?_); rintro e w' ⟨rfl, ⟨nd, rfl⟩⟩; refine ⟨_, rfl, ?_⟩))
 go_ret
 exact ⟨cl, d0⟩
def lex_IsAtom.l0 : Nat → ByteArray → Int → Int → Option (Bool)
 | 0, _, _, _ => none
 | k + 1, x0, x5, x6 => if x6 < x5 then (if 0 ≤ x6 then (if x6 < (x0.size : Int) then ((lex_atomic.f (bt x0 x6)).bind fun t228 => (if t228 = true then (lex_IsAtom.l0 k x0 x5 (wrap64 (x6 + 1))) else (some false))) else (none)) else (none)) else (some (x0.toList != ([] : List UInt8)))
def lex_IsAtom.f (k : Nat) (a0 : ByteArray) : Option (Bool) := lex_IsAtom.l0 k a0 (a0.size : Int) 0
set_option maxRecDepth 100000 in
theorem lex_IsAtom.calls (k : Nat) (a0 : ByteArray) (r : Bool) (w : World) (h : lex_IsAtom.f k a0 = some r) :
  Calls Tryz.prog 107 #[.string a0] w fun e w' => e = .returned (.bool r) ∧ Drawn0 w w' := by
 have H : (lex_IsAtom.l0 k a0 (a0.size : Int) 0) = some r := h; clear h; have H' := Aside0.mk H; clear H
 go_enter Tryz.func107, Tryz.ntmps107
 go_wp2
 go_loopg [6] k (fun kq v6 w' => ∃ (x6_1 : Int), v6 = .int .i64 x6_1 ∧ Aside0 (lex_IsAtom.l0 kq a0 (a0.size : Int) x6_1 = some r) ∧ Aside0 (kq ≤ k) ∧ Drawn0 w w')
 case atStart => exact ⟨(0), cl, H', ⟨Nat.le_refl _⟩, d0⟩
 case round =>
  clear H'
  try clear c1
  obtain ⟨x6_1, rfl, HA, HK1, ⟨m1, rfl⟩⟩ := hrel; cases gk with
  | zero => exact absurd HA.out (by simp [lex_IsAtom.l0])
  | succ k1 =>
   have H := HA.out; clear HA; simp only [lex_IsAtom.l0] at H
   by_cases c2 : x6_1 < (a0.size : Int)
   ·rw [if_pos c2] at H; have c2b0 := decide_eq_true c2; clear c2
    by_cases c3 : 0 ≤ x6_1
    ·rw [if_pos c3] at H; have c3b0 := decide_eq_true c3; clear c3
     by_cases c4 : x6_1 < (a0.size : Int)
     ·rw [if_pos c4] at H; have c4b0 := decide_eq_true c4; clear c4; replace H := Option.bind_eq_some_iff.mp H; obtain ⟨t228, A60, H⟩ := H; have A6 := Aside0.mk A60; clear A60
      by_cases c7 : t228 = true
      ·subst c7; rw [if_pos rfl] at H; have H' := Aside0.mk H; clear H; have p5 : 0 ≤ (x6_1 : Int) := od; have q5 : x6_1 < (a0.size : Int) := od; have hx5 := bt_at a0 x6_1; replace p5 := eq_true p5; replace q5 := eq_true q5
       go_wp2_with (first | ((with_reducible refine gate_callee (f := 142) rfl ?_); refine goesL_ (some 12) rfl rfl Tryz.func142 (by kernel_rfl) rfl #[.int .u8 (bt a0 x6_1)] rfl am ?_; (with_reducible refine (lex_atomic.calls (bt a0 x6_1) true _ A6.out).mono ?_); rintro e w' ⟨rfl, ⟨nd, rfl⟩⟩; refine ⟨_, rfl, ?_⟩))
       go_roundg k1
       case measure => have := HK1.out; omega
       case rel => exact ⟨(wrap64 (x6_1 + 1)), cl, H', ⟨by have := HK1.out; omega⟩, d0⟩
      replace c7 := Bool.eq_false_iff.mpr c7; subst c7; rw [if_neg nft] at H; obtain rfl := Option.some.inj H; have p5 : 0 ≤ (x6_1 : Int) := od; have q5 : x6_1 < (a0.size : Int) := od; have hx5 := bt_at a0 x6_1; replace p5 := eq_true p5; replace q5 := eq_true q5
      go_wp2_with (first | ((with_reducible refine gate_callee (f := 142) rfl ?_); refine goesL_ (some 12) rfl rfl Tryz.func142 (by kernel_rfl) rfl #[.int .u8 (bt a0 x6_1)] rfl am ?_; (with_reducible refine (lex_atomic.calls (bt a0 x6_1) false _ A6.out).mono ?_); rintro e w' ⟨rfl, ⟨nd, rfl⟩⟩; refine ⟨_, rfl, ?_⟩))
      go_ret
      exact ⟨cl, d0⟩
     rw [if_neg c4] at H; exact absurd H (by simp)
    rw [if_neg c3] at H; exact absurd H (by simp)
   rw [if_neg c2] at H; have c2b0 := decide_eq_false c2; clear c2; obtain rfl := Option.some.inj H
   go_wp2
   go_ret
   exact ⟨cl, d0⟩
def head_All.l0 : Nat → ByteArray → List ByteArray → List (S54) → Int → Int → Option (List ByteArray)
 | 0, _, _, _, _, _ => none
 | k + 1, x1, x5, x8, x9, x10 => if x10 < x9 then (if 0 ≤ x10 then (if x10 < (x8.length : Int) then ((head_same.f ((rd_T54 x8 x10).f0) x1).bind fun t443 => (if t443 = true then (if x5.length < 8796093022208 then (head_All.l0 k x1 (x5 ++ [(rd_T54 x8 x10).f1]) x8 x9 (wrap64 (x10 + 1))) else (none)) else (head_All.l0 k x1 x5 x8 x9 (wrap64 (x10 + 1))))) else (none)) else (none)) else (some x5)
def head_All.f (k : Nat) (l0 : List (S54)) (a1 : ByteArray) : Option (List ByteArray) := head_All.l0 k a1 ([] : List ByteArray) l0 (l0.length : Int) 0
set_option maxRecDepth 100000 in
theorem head_All.calls (k : Nat) (A0 : Option Addr) (c0 : Nat) (l0 : List (S54)) (a1 : ByteArray) (r : List ByteArray) (w : World) (hr0 : Kd.C k54 w A0 l0.length l0) (hc0 : l0.length ≤ c0) (h : head_All.f k l0 a1 = some r) :
  Calls Tryz.prog 17 #[.slice A0 l0.length c0, .string a1] w fun e w' => ∃ v0_ : Value, e = .returned (v0_) ∧ Kd.R Kd.string 9 w' w.heap.size (fun _ => True) v0_ r ∧ Below w.heap.size w w' := by
 have hu54 := Tryz.underlying54; have HR0 := Aside0.mk hr0; have HC0 := Aside0.mk hc0; clear hr0 hc0; have HB := Aside0.mk (Below.refl w.heap.size w); have H : (head_All.l0 k a1 ([] : List ByteArray) l0 (l0.length : Int) 0) = some r := h; clear h; have H' := Aside0.mk H; clear H
 go_enter Tryz.func17, Tryz.ntmps17
 go_wp2
 go_loopg [5, 10] k (fun kq v5 v10 w' => ∃ (x5_1 : List ByteArray) (x10_1 : Int), v10 = .int .i64 x10_1 ∧ Aside0 (head_All.l0 kq a1 x5_1 l0 (l0.length : Int) x10_1 = some r) ∧ Aside0 (kq ≤ k) ∧ Aside0 (Kd.R Kd.string 9 w' w.heap.size (fun _ => True) v5 x5_1) ∧ Aside0 (Below w.heap.size w w'))
 case atStart => exact ⟨(([] : List ByteArray)), (0), cl, H', ⟨Nat.le_refl _⟩, ⟨by first | exact Kd.R_nil _ _ _ _ _ | exact Kd.N_nil _ _ _ _ _ | exact Kd.V_nil _ _ _ _ _ | exact Kd.Q_nil _ _ _ _ _ | exact Kd.S_nil _ _ _ _ _⟩, ⟨bw⟩⟩
 case round =>
  clear H'; obtain ⟨x5_1, x10_1, rfl, HA, HK1, HO_5, HB⟩ := hrel; cases gk with
  | zero => exact absurd HA.out (by simp [head_All.l0])
  | succ k1 =>
   have H := HA.out; clear HA; simp only [head_All.l0] at H
   by_cases c3 : x10_1 < (l0.length : Int)
   ·rw [if_pos c3] at H; have c3b0 := decide_eq_true c3; clear c3
    by_cases c4 : 0 ≤ x10_1
    ·rw [if_pos c4] at H; have c4b0 := decide_eq_true c4; clear c4
     by_cases c5 : x10_1 < (l0.length : Int)
     ·rw [if_pos c5] at H; have c5b0 := decide_eq_true c5; clear c5; replace H := Option.bind_eq_some_iff.mp H; obtain ⟨t443, A60, H⟩ := H; have A6 := Aside0.mk A60; clear A60
      by_cases c7 : t443 = true
      ·subst c7; rw [if_pos rfl] at H
       by_cases c8 : x5_1.length < 8796093022208
       ·rw [if_pos c8] at H; have LMc8 := Aside0.mk c8; clear c8; obtain ⟨y444, hy444⟩ : ∃ y_ : List ByteArray, y_ = (x5_1 ++ [(rd_T54 l0 x10_1).f1]) := ⟨_, rfl⟩
        replace H : (head_All.l0 k1 a1 y444 l0 (l0.length : Int) (wrap64 (x10_1 + 1))) = some r := by first | (rw [hy444]; with_reducible exact H) | (have H2_ := (Option.bind_some _ _).symm.trans H; rw [hy444]; with_reducible exact H2_) | (have H2_ := (Option.bind_some _ _).symm.trans H; with_reducible exact H2_) | with_reducible exact H | (rw [hy444]; exact H) | exact H
        have Ny444 := Aside0.mk hy444; clear hy444; have H' := Aside0.mk H; clear H; have p441 : 0 ≤ (x10_1 : Int) := od; have q441 : x10_1 < (l0.length : Int) := od; obtain ⟨ad441, e441, hx441_0, hx441_1⟩ := at_T54 HR0.out x10_1 p441 q441; cases e441; replace hx441_0 := hbc HB hx441_0; replace hx441_1 := hbc HB hx441_1; replace p441 := eq_true p441; replace q441 := eq_true q441
        go_wp2_with (first | ((with_reducible refine gate_dst (N := 7) rfl ?_); refine box_event ?hg (N := 7) ?hd (cs := #[.string (⟨#[]⟩ : ByteArray), .string (⟨#[]⟩ : ByteArray)]) (t := 54) ?hr ?_; (case hd => rfl); (case hg => rfl); (case hr => first | (go_simp; done) | (go_simp; rfl)); intro gb442 hg w9 hbox hb; have n0_ := Aside0.mk (Kd.R_below (ra HO_5.out) hb); have n1_ := Aside0.mk (below_step bw hb); have n2_ := Aside0.mk (hbox); have n3_ := Aside0.mk ((by rw [hg]; exact (below_size bw) : w.heap.size ≤ gb442)); have n4_ := Aside0.mk ((by rw [hg]; exact (below_size bw) : w.heap.size ≤ gb442)); clear HO_5; clear HB; have HO_5 := n0_; have HB := n1_; have BK442 := n2_; have GW442 := n3_; have GE442 := n4_; clear n0_ n1_ n2_ n3_ n4_; clear hb hbox hg; obtain ⟨hcz10_0, hcz10_1⟩ := ce2 BK442; obtain ⟨hfz10_0, hfz10_1⟩ := fz2 BK442) | ((with_reducible refine gate_callee (f := 47) rfl ?_); refine goesL_ (some 17) rfl rfl Tryz.func47 (by kernel_rfl) rfl #[.string ((rd_T54 l0 x10_1).f0), .string a1] rfl am ?_; (with_reducible refine (head_same.calls ((rd_T54 l0 x10_1).f0) a1 true _ A6.out).mono ?_); rintro e w11 ⟨rfl, hb⟩; refine ⟨_, rfl, ?_⟩; have n0_ := Aside0.mk (Kd.R_below (by (with_reducible repeat (first | apply Kd.R_alloc | apply Kd.R_drewN | apply Kd.R_drew)); exact (Kd.R_mono (Kd.R_far (p := ⟨gb442, 1, none⟩) (Kd.R_far (p := ⟨gb442, 0, none⟩) (Kd.R_types HO_5.out BK442.out (by decide)) (fun _ hk => hk.2) (.string ((rd_T54 l0 x10_1).f0))) (fun _ hk => hk.2) (.string ((rd_T54 l0 x10_1).f1))) (fun _ h_ => h_.1))) hb); have n1_ := Aside0.mk (blk_below (g := gb442) (o := .cells #[.string ((rd_T54 l0 x10_1).f0), .string ((rd_T54 l0 x10_1).f1)] 54 (0, 0)) (by (with_reducible repeat (first | refine blk_drewN ?_ _ | refine blk_drew ?_ | refine blk_alloc ?_ _)); refine blk_put (cs := #[.string ((rd_T54 l0 x10_1).f0), .string (⟨#[]⟩ : ByteArray)]) ?_ 1 _ rfl; (with_reducible repeat (first | refine blk_drewN ?_ _ | refine blk_drew ?_ | refine blk_alloc ?_ _)); exact blk_put (cs := #[.string (⟨#[]⟩ : ByteArray), .string (⟨#[]⟩ : ByteArray)]) bk 0 _ rfl) hb); have n2_ := Aside0.mk (below_step bwS hb); clear HO_5; clear BK442; clear HB; have HO_5 := n0_; have BK442 := n1_; have HB := n2_; clear n0_ n1_ n2_; (try clear hb); (try clear hb2); (try clear hk); (try clear hi); obtain ⟨hcz12_0, hcz12_1⟩ := ce2 BK442; obtain ⟨hfz12_0, hfz12_1⟩ := fz2 BK442) | ((with_reducible refine gate_builtin (b := .append) (xs := #[.tmp 18, .tmp 21]) rfl ?_); at_builtin; refine Kd.R_append Kd.string (w0 := w) w.heap.size rfl (.tmp 18) (.tmp 21) 48 9 (.string ⟨#[]⟩) 16 rfl Tryz.underlying48 info9 rfl (by decide) (by omega) u5 x5_1 ((rd_T54 l0 x10_1).f1) [.string ((rd_T54 l0 x10_1).f1)] (fun _ => True) (fun _ => False) rfl rfl ?aP (fun _ hk => hk.elim) ?aF ?aO ?aB ?aS ?aL ?_; (case aP => exact rfl); (case aB => exact bwS); (case aF => exact (fun _ _ => trivial)); (case aO => exact (ra HO_5.out)); (case aS => exact (below_size bwS)); (case aL => have := LMc8.out; omega); intro v445 w13 ho hb hg hat; rw [← Ny444.out] at ho; have n0_ := Aside0.mk (blk_grown (g := gb442) (o := .cells #[.string ((rd_T54 l0 x10_1).f0), .string ((rd_T54 l0 x10_1).f1)] 54 (0, 0)) bk hg (Kd.R_ne HO_5.out BK442.out (by decide))); have n1_ := Aside0.mk (hb); have n2_ := Aside0.mk (ho); clear BK442; clear HB; clear HO_5; have BK442 := n0_; have HB := n1_; have HO446 := n2_; clear n0_ n1_ n2_; clear ho hb hg hat))
        go_roundg k1
        case measure => have := HK1.out; omega
        case rel => exact ⟨(y444), (wrap64 (x10_1 + 1)), cl, H', ⟨by have := HK1.out; omega⟩, ⟨ra HO446.out⟩, ⟨bwS⟩⟩
       rw [if_neg c8] at H; exact absurd H (by simp)
      replace c7 := Bool.eq_false_iff.mpr c7; subst c7; rw [if_neg nft] at H; have H' := Aside0.mk H; clear H; have p441 : 0 ≤ (x10_1 : Int) := od; have q441 : x10_1 < (l0.length : Int) := od; obtain ⟨ad441, e441, hx441_0, hx441_1⟩ := at_T54 HR0.out x10_1 p441 q441; cases e441; replace hx441_0 := hbc HB hx441_0; replace hx441_1 := hbc HB hx441_1; replace p441 := eq_true p441; replace q441 := eq_true q441
      go_wp2_with (first | ((with_reducible refine gate_dst (N := 7) rfl ?_); refine box_event ?hg (N := 7) ?hd (cs := #[.string (⟨#[]⟩ : ByteArray), .string (⟨#[]⟩ : ByteArray)]) (t := 54) ?hr ?_; (case hd => rfl); (case hg => rfl); (case hr => first | (go_simp; done) | (go_simp; rfl)); intro gb442 hg w14 hbox hb; have n0_ := Aside0.mk (Kd.R_below (ra HO_5.out) hb); have n1_ := Aside0.mk (below_step bw hb); have n2_ := Aside0.mk (hbox); have n3_ := Aside0.mk ((by rw [hg]; exact (below_size bw) : w.heap.size ≤ gb442)); have n4_ := Aside0.mk ((by rw [hg]; exact (below_size bw) : w.heap.size ≤ gb442)); clear HO_5; clear HB; have HO_5 := n0_; have HB := n1_; have BK442 := n2_; have GW442 := n3_; have GE442 := n4_; clear n0_ n1_ n2_ n3_ n4_; clear hb hbox hg; obtain ⟨hcz15_0, hcz15_1⟩ := ce2 BK442; obtain ⟨hfz15_0, hfz15_1⟩ := fz2 BK442) | ((with_reducible refine gate_callee (f := 47) rfl ?_); refine goesL_ (some 17) rfl rfl Tryz.func47 (by kernel_rfl) rfl #[.string ((rd_T54 l0 x10_1).f0), .string a1] rfl am ?_; (with_reducible refine (head_same.calls ((rd_T54 l0 x10_1).f0) a1 false _ A6.out).mono ?_); rintro e w16 ⟨rfl, hb⟩; refine ⟨_, rfl, ?_⟩; have n0_ := Aside0.mk (Kd.R_below (by (with_reducible repeat (first | apply Kd.R_alloc | apply Kd.R_drewN | apply Kd.R_drew)); exact (Kd.R_mono (Kd.R_far (p := ⟨gb442, 1, none⟩) (Kd.R_far (p := ⟨gb442, 0, none⟩) (Kd.R_types HO_5.out BK442.out (by decide)) (fun _ hk => hk.2) (.string ((rd_T54 l0 x10_1).f0))) (fun _ hk => hk.2) (.string ((rd_T54 l0 x10_1).f1))) (fun _ h_ => h_.1))) hb); have n1_ := Aside0.mk (blk_below (g := gb442) (o := .cells #[.string ((rd_T54 l0 x10_1).f0), .string ((rd_T54 l0 x10_1).f1)] 54 (0, 0)) (by (with_reducible repeat (first | refine blk_drewN ?_ _ | refine blk_drew ?_ | refine blk_alloc ?_ _)); refine blk_put (cs := #[.string ((rd_T54 l0 x10_1).f0), .string (⟨#[]⟩ : ByteArray)]) ?_ 1 _ rfl; (with_reducible repeat (first | refine blk_drewN ?_ _ | refine blk_drew ?_ | refine blk_alloc ?_ _)); exact blk_put (cs := #[.string (⟨#[]⟩ : ByteArray), .string (⟨#[]⟩ : ByteArray)]) bk 0 _ rfl) hb); have n2_ := Aside0.mk (below_step bwS hb); clear HO_5; clear BK442; clear HB; have HO_5 := n0_; have BK442 := n1_; have HB := n2_; clear n0_ n1_ n2_; (try clear hb); (try clear hb2); (try clear hk); (try clear hi)))
      go_roundg k1
      case measure => have := HK1.out; omega
      case rel => exact ⟨(x5_1), (wrap64 (x10_1 + 1)), cl, H', ⟨by have := HK1.out; omega⟩, ⟨ra HO_5.out⟩, ⟨bwS⟩⟩
     rw [if_neg c5] at H; exact absurd H (by simp)
    rw [if_neg c4] at H; exact absurd H (by simp)
   rw [if_neg c3] at H; have c3b0 := decide_eq_false c3; clear c3; obtain rfl := Option.some.inj H
   go_wp2
   go_ret
   exact ⟨_, ew, ra HO_5.out, bw⟩
def lex_sign.f (a0 : Int) : Option (Bool) := (strings_IndexByte.f (⟨#[60, 62, 58, 59, 64, 44, 46]⟩ : ByteArray) a0).bind fun t462 => (some (decide (t462 ≥ 0)))
set_option maxRecDepth 100000 in
theorem lex_sign.calls (a0 : Int) (r : Bool) (w : World) (h : lex_sign.f a0 = some r) :
  Calls Tryz.prog 202 #[.int .u8 a0] w fun e w' => e = .returned (.bool r) ∧ Drawn0 w w' := by
 have H : ((strings_IndexByte.f (⟨#[60, 62, 58, 59, 64, 44, 46]⟩ : ByteArray) a0).bind fun t462 => (some (decide (t462 ≥ 0)))) = some r := h; clear h; replace H := Option.bind_eq_some_iff.mp H; obtain ⟨t462, A20, H⟩ := H; have A2 := Aside0.mk A20; clear A20; obtain rfl := Option.some.inj H
 go_enter Tryz.func202, Tryz.ntmps202
 go_wp2_with (first | ((with_reducible refine gate_callee (f := 172) rfl ?_); refine goesL_ (some 4) rfl rfl Tryz.func172 (by kernel_rfl) rfl #[.string (⟨#[60, 62, 58, 59, 64, 44, 46]⟩ : ByteArray), .int .u8 a0] rfl am ?_; (with_reducible refine (strings_IndexByte.calls (⟨#[60, 62, 58, 59, 64, 44, 46]⟩ : ByteArray) a0 t462 _ A2.out).mono ?_); rintro e w' ⟨rfl, ⟨nd, rfl⟩⟩; refine ⟨_, rfl, ?_⟩))
 go_ret
 exact ⟨cl, d0⟩
def lex_next.l0 : Nat → ByteArray → Int → Option (Int × ByteArray × ByteArray × Int)
 | 0, _, _ => none
 | k + 1, x0, x8 => if x8 < (x0.size : Int) then (if 0 ≤ x8 then ((lex_atomic.f (bt x0 x8)).bind fun t473 => (if t473 = true then (lex_next.l0 k x0 (wrap64 (x8 + 1))) else (if x8 = 0 then (some (0, (⟨#[]⟩ : ByteArray), (⟨#[]⟩ : ByteArray), 3)) else (if x8 ≤ (x0.size : Int) then (some (1, x0.extract 0 (x8 : Int).toNat, x0.extract (x8 : Int).toNat x0.size, 0)) else (none))))) else (none)) else (if x8 = 0 then (some (0, (⟨#[]⟩ : ByteArray), (⟨#[]⟩ : ByteArray), 3)) else (if 0 ≤ x8 then (if x8 ≤ (x0.size : Int) then (some (1, x0.extract 0 (x8 : Int).toNat, x0.extract (x8 : Int).toNat x0.size, 0)) else (none)) else (none)))
def lex_next.f (k : Nat) (a0 : ByteArray) : Option (Int × ByteArray × ByteArray × Int) := if 0 < (a0.size : Int) then ((lex_white.f (bt a0 0)).bind fun t464 => (if t464 = true then (if 1 ≤ (a0.size : Int) then (some (0, (⟨#[]⟩ : ByteArray), a0.extract 1 a0.size, 0)) else (none)) else ((lex_fold.f a0).bind fun t465 => (if t465 = true then (if 2 ≤ (a0.size : Int) then (some (0, (⟨#[]⟩ : ByteArray), a0.extract 2 a0.size, 0)) else (none)) else (if (bt a0 0) = 40 then ((lex_comment.f k a0).bind fun bt466 => (some (0, (⟨#[]⟩ : ByteArray), bt466.1, bt466.2))) else (if (bt a0 0) = 34 then ((lex_quoted.f k a0).bind fun bt468 => (some (bt468.1, bt468.2.1, bt468.2.2.1, bt468.2.2.2))) else ((lex_sign.f (bt a0 0)).bind fun t472 => (if t472 = true then (if 0 ≤ 1 then (if 1 ≤ (a0.size : Int) then (some (3, a0.extract 0 1, a0.extract 1 a0.size, 0)) else (none)) else (none)) else (lex_next.l0 k a0 0))))))))) else (none)
def lex_next.T12 : Bool × List (List Nat × List Nat) := (true, [([], []), ([0], [0]), ([1], [1]), ([], []), ([3], [3]), ([2, 0, 1, 2], [2]), ([4, 5, 0, 1, 2, 3, 4, 5], [4]), ([6, 0, 1, 2, 3, 4, 5, 6], [])])
def lex_next.B12 : List Nat := [0, 1, 3, 0, 8, 7, 63, 127]
theorem lex_next.tab12 : rtab .any (opsOf Tryz.f181 12) = lex_next.T12 := by kernel_rfl
theorem lex_next.bits12 : waitsOk lex_next.T12.2 lex_next.B12 = true := by kernel_rfl
def lex_next.T18 : Bool × List (List Nat × List Nat) := (true, [([], []), ([], []), ([0, 1], [0, 1]), ([2], [2]), ([], []), ([], []), ([4, 5], [4, 5]), ([3, 0, 1, 2, 3], [3]), ([6, 7, 0, 1, 2, 3, 4, 5, 6, 7], [6]), ([8, 0, 1, 2, 3, 4, 5, 6, 7, 8], [])])
def lex_next.B18 : List Nat := [0, 0, 3, 7, 0, 0, 48, 15, 255, 511]
theorem lex_next.tab18 : rtab .any (opsOf Tryz.f181 18) = lex_next.T18 := by kernel_rfl
theorem lex_next.bits18 : waitsOk lex_next.T18.2 lex_next.B18 = true := by kernel_rfl
set_option maxRecDepth 100000 in
theorem lex_next.calls (k : Nat) (a0 : ByteArray) (r1 : Int) (r2 : ByteArray) (r3 : ByteArray) (r4 : Int) (w : World) (h : lex_next.f k a0 = some (r1, r2, r3, r4)) :
  Calls Tryz.prog 181 #[.string a0] w fun e w' => e = .returned (.tuple #[.agg #[.int .i64 r1, .string r2], .string r3, .int .i64 r4]) ∧ Below w.heap.size w w' := by
 have hu194 := Tryz.underlying194; have HB := Aside0.mk (Below.refl w.heap.size w); have H : (if 0 < (a0.size : Int) then ((lex_white.f (bt a0 0)).bind fun t464 => (if t464 = true then (if 1 ≤ (a0.size : Int) then (some (0, (⟨#[]⟩ : ByteArray), a0.extract 1 a0.size, 0)) else (none)) else ((lex_fold.f a0).bind fun t465 => (if t465 = true then (if 2 ≤ (a0.size : Int) then (some (0, (⟨#[]⟩ : ByteArray), a0.extract 2 a0.size, 0)) else (none)) else (if (bt a0 0) = 40 then ((lex_comment.f k a0).bind fun bt466 => (some (0, (⟨#[]⟩ : ByteArray), bt466.1, bt466.2))) else (if (bt a0 0) = 34 then ((lex_quoted.f k a0).bind fun bt468 => (some (bt468.1, bt468.2.1, bt468.2.2.1, bt468.2.2.2))) else ((lex_sign.f (bt a0 0)).bind fun t472 => (if t472 = true then (if 0 ≤ 1 then (if 1 ≤ (a0.size : Int) then (some (3, a0.extract 0 1, a0.extract 1 a0.size, 0)) else (none)) else (none)) else (lex_next.l0 k a0 0))))))))) else (none)) = some (r1, r2, r3, r4) := h; clear h
 by_cases c2 : 0 < (a0.size : Int)
 ·rw [if_pos c2] at H; have c2b0 := decide_eq_true c2; have c2b1 : decide (0 < a0.size) = true := decide_eq_true (by omega); clear c2; replace H := Option.bind_eq_some_iff.mp H; obtain ⟨t464, A40, H⟩ := H; have A4 := Aside0.mk A40; clear A40
  by_cases c5 : t464 = true
  ·subst c5; rw [if_pos rfl] at H
   by_cases c6 : 1 ≤ (a0.size : Int)
   ·rw [if_pos c6] at H; have c6b0 := eq_true c6; have c6b1 := decide_eq_true c6; clear c6; simp only [Option.some.injEq, Prod.mk.injEq] at H; obtain ⟨rfl, rfl, rfl, rfl⟩ := H
    go_enter Tryz.func181, Tryz.ntmps181
    try go_wp2_with (first | ((with_reducible refine gate_dst (N := 2) rfl ?_); refine box_event ?hg (N := 2) ?hd (cs := #[.int .i64 0, .string (⟨#[]⟩ : ByteArray)]) (t := 194) ?hr ?_; (case hd => rfl); (case hg => rfl); (case hr => first | (go_simp; done) | (go_simp; rfl)); intro gb463 hg w7 hbox hb; have n0_ := Aside0.mk (below_step bw hb); have n1_ := Aside0.mk (hbox); have n2_ := Aside0.mk ((by rw [hg]; exact (below_size bw) : w.heap.size ≤ gb463)); have n3_ := Aside0.mk ((by rw [hg]; exact (below_size bw) : w.heap.size ≤ gb463)); clear HB; have HB := n0_; have BK463 := n1_; have GW463 := n2_; have GE463 := n3_; clear n0_ n1_ n2_ n3_; clear hb hbox hg; have p3 : 0 ≤ (0 : Int) := (by omega); have q3 : 0 < a0.size := (by have : (0 : Int) < (a0.size : Int) := od; omega); have hx3 : ∀ h : 0 < a0.size, ((a0[0]'h).toNat : Int) = bt a0 0 := bt_at a0 0; clear p3; have qi3 : (0 < (a0.size : Int)) = True := eq_true (od); replace q3 := eq_true q3) | ((with_reducible refine gate_callee (f := 198) rfl ?_); refine goesL_ (some 13) rfl rfl Tryz.func198 (by kernel_rfl) rfl #[.int .u8 (bt a0 0)] rfl am ?_; (with_reducible refine (lex_white.calls (bt a0 0) true _ A4.out).mono ?_); rintro e w' ⟨rfl, ⟨nd, rfl⟩⟩; refine ⟨_, rfl, ?_⟩; (try (rw [drewN_self w7]; generalize hq_ : World.drewN w7 _ = w7; have n0_ : Aside0 (w7.heap[gb463]? = some (.cells #[.int .i64 0, .string (⟨#[]⟩ : ByteArray)] 194 (0, 0))) := ⟨by rw [← hq_]; exact bk⟩; have n1_ : Aside0 (Below w.heap.size w w7) := ⟨by rw [← hq_]; exact bwS⟩; clear BK463 HB hq_; have BK463 := n0_; have HB := n1_; clear n0_ n1_))))
    have n0_ := Aside0.mk (blk_drew BK463.out); have n1_ := Aside0.mk (below_drew1 HB.out); clear BK463 HB; have BK463 := n0_; have HB := n1_; clear n0_ n1_; refine start_ (n := 6) (S := fun w' => True) (ds := []) #[false, false, false, false, false, false] (by kernel_rfl) rfl rfl trivial (fun hHeld => ?_); generalize w7.drew = w8 at BK463 HB hHeld ⊢
    refine pure_ (i := 0) (N := some 14) (v := ?_) (a' := ?_) #[true, false, false, false, false, false] rfl rfl (by kernel_rfl) (fun _ _ _ h => h) (Or.inl ⟨by rfl, ?_⟩) ?_ ?_; rotate_left
    ·intro w'; go_simp; with_reducible rfl
    rotate_left
    ·simp only [Act.put, sa_, sz_, ss_, i64_w, i32_w]; rfl
    refine pure_ (i := 1) (N := some 15) (v := ?_) (a' := ?_) #[true, true, false, false, false, false] rfl rfl (by kernel_rfl) (fun _ _ _ h => h) (Or.inl ⟨by rfl, ?_⟩) ?_ ?_; rotate_left
    ·intro w'; go_simp; with_reducible rfl
    rotate_left
    ·simp only [Act.put, sa_, sz_, ss_, i64_w, i32_w]; rfl
    refine pure_ (i := 2) (N := some 16) (v := ?_) (a' := ?_) #[true, true, true, false, false, false] rfl rfl (by kernel_rfl) (fun _ _ _ h => h) (Or.inl ⟨by rfl, ?_⟩) ?_ ?_; rotate_left
    ·intro w'; go_simp; with_reducible rfl
    rotate_left
    ·simp only [Act.put, sa_, sz_, ss_, i64_w, i32_w]; rfl
    refine one_ (i := 3) (N := none) #[true, true, true, true, false, false] rfl rfl (by kernel_rfl) (by decide) (fun K hK => ?_); have hs9 : w8.cell? ⟨gb463, 0, none⟩ = some (.int .i64 0) := (blk_cell BK463.out 0).trans rfl; have hfs9 := blk_frozen BK463.out 0; have hs10 : w8.cell? ⟨gb463, 1, none⟩ = some (.string (⟨#[]⟩ : ByteArray)) := (blk_cell BK463.out 1).trans rfl; have hfs10 := blk_frozen BK463.out 1; refine skip_ (w1 := ?_) (by rfl) rfl ?_ ?_; rotate_left
    ·go_simp; rfl
    refine hK.out _ _ trivial (fun hHeld => ?_); clear hK K; refine pure_ (i := 4) (N := some 3) (v := ?_) (a' := ?_) #[true, true, true, true, true, false] rfl rfl (by kernel_rfl) (fun _ _ _ h => h) (Or.inl ⟨by rfl, ?_⟩) ?_ ?_; rotate_left
    ·intro w'; go_simp; with_reducible rfl
    rotate_left
    ·simp only [Act.put, sa_, sz_, ss_, i64_w, i32_w]; rfl
    refine pure_ (i := 5) (N := some 4) (v := ?_) (a' := ?_) #[true, true, true, true, true, true] rfl rfl (by kernel_rfl) (fun _ _ _ h => h) (Or.inl ⟨by rfl, ?_⟩) ?_ ?_; rotate_left
    ·intro w'; go_simp; with_reducible rfl
    rotate_left
    ·simp only [Act.put, sa_, sz_, ss_, i64_w, i32_w]; rfl
    refine done_ (by kernel_rfl) ?_
    try go_wp2
    refine bodyPost_ret (results_ctt rfl _ _ gb463 194 #[.int .i64 0, .string (⟨#[]⟩ : ByteArray)] (0, 0) _ rfl (by (with_reducible repeat (first | refine blk_drewN ?_ _ | refine blk_drew ?_ | refine blk_alloc ?_ _)); refine blk_put (cs := #[.int .i64 0, .string (⟨#[]⟩ : ByteArray)]) ?_ 1 _ rfl; (with_reducible repeat (first | refine blk_drewN ?_ _ | refine blk_drew ?_ | refine blk_alloc ?_ _)); exact blk_put (cs := #[.int .i64 0, .string (⟨#[]⟩ : ByteArray)]) bk 0 _ rfl) Tryz.underlying194 rfl (by kernel_rfl)) rfl ?_; exact ⟨ew, bwS⟩
   rw [if_neg c6] at H; exact absurd H (by simp)
  replace c5 := Bool.eq_false_iff.mpr c5; subst c5; rw [if_neg nft] at H; replace H := Option.bind_eq_some_iff.mp H; obtain ⟨t465, A110, H⟩ := H; have A11 := Aside0.mk A110; clear A110
  by_cases c12 : t465 = true
  ·subst c12; rw [if_pos rfl] at H
   by_cases c13 : 2 ≤ (a0.size : Int)
   ·rw [if_pos c13] at H; have c13b0 := eq_true c13; have c13b1 := decide_eq_true c13; clear c13; simp only [Option.some.injEq, Prod.mk.injEq] at H; obtain ⟨rfl, rfl, rfl, rfl⟩ := H
    go_enter Tryz.func181, Tryz.ntmps181
    try go_wp2_with (first | ((with_reducible refine gate_dst (N := 2) rfl ?_); refine box_event ?hg (N := 2) ?hd (cs := #[.int .i64 0, .string (⟨#[]⟩ : ByteArray)]) (t := 194) ?hr ?_; (case hd => rfl); (case hg => rfl); (case hr => first | (go_simp; done) | (go_simp; rfl)); intro gb463 hg w14 hbox hb; have n0_ := Aside0.mk (below_step bw hb); have n1_ := Aside0.mk (hbox); have n2_ := Aside0.mk ((by rw [hg]; exact (below_size bw) : w.heap.size ≤ gb463)); have n3_ := Aside0.mk ((by rw [hg]; exact (below_size bw) : w.heap.size ≤ gb463)); clear HB; have HB := n0_; have BK463 := n1_; have GW463 := n2_; have GE463 := n3_; clear n0_ n1_ n2_ n3_; clear hb hbox hg; have p3 : 0 ≤ (0 : Int) := (by omega); have q3 : 0 < a0.size := (by have : (0 : Int) < (a0.size : Int) := od; omega); have hx3 : ∀ h : 0 < a0.size, ((a0[0]'h).toNat : Int) = bt a0 0 := bt_at a0 0; clear p3; have qi3 : (0 < (a0.size : Int)) = True := eq_true (od); replace q3 := eq_true q3) | ((with_reducible refine gate_callee (f := 198) rfl ?_); refine goesL_ (some 13) rfl rfl Tryz.func198 (by kernel_rfl) rfl #[.int .u8 (bt a0 0)] rfl am ?_; (with_reducible refine (lex_white.calls (bt a0 0) false _ A4.out).mono ?_); rintro e w' ⟨rfl, ⟨nd, rfl⟩⟩; refine ⟨_, rfl, ?_⟩; (try (rw [drewN_self w14]; generalize hq_ : World.drewN w14 _ = w14; have n0_ : Aside0 (w14.heap[gb463]? = some (.cells #[.int .i64 0, .string (⟨#[]⟩ : ByteArray)] 194 (0, 0))) := ⟨by rw [← hq_]; exact bk⟩; have n1_ : Aside0 (Below w.heap.size w w14) := ⟨by rw [← hq_]; exact bwS⟩; clear BK463 HB hq_; have BK463 := n0_; have HB := n1_; clear n0_ n1_))) | ((with_reducible refine gate_callee (f := 199) rfl ?_); refine goesL_ (some 19) rfl rfl Tryz.func199 (by kernel_rfl) rfl #[.string a0] rfl am ?_; (with_reducible refine (lex_fold.calls a0 true _ A11.out).mono ?_); rintro e w' ⟨rfl, ⟨nd, rfl⟩⟩; refine ⟨_, rfl, ?_⟩; (try (rw [drewN_self w14]; generalize hq_ : World.drewN w14 _ = w14; have n0_ : Aside0 (w14.heap[gb463]? = some (.cells #[.int .i64 0, .string (⟨#[]⟩ : ByteArray)] 194 (0, 0))) := ⟨by rw [← hq_]; exact bk⟩; have n1_ : Aside0 (Below w.heap.size w w14) := ⟨by rw [← hq_]; exact bwS⟩; clear BK463 HB hq_; have BK463 := n0_; have HB := n1_; clear n0_ n1_))))
    have n0_ := Aside0.mk (blk_drew BK463.out); have n1_ := Aside0.mk (below_drew1 HB.out); clear BK463 HB; have BK463 := n0_; have HB := n1_; clear n0_ n1_; refine start_ (n := 6) (S := fun w' => True) (ds := []) #[false, false, false, false, false, false] (by kernel_rfl) rfl rfl trivial (fun hHeld => ?_); generalize w14.drew = w15 at BK463 HB hHeld ⊢
    refine pure_ (i := 0) (N := some 20) (v := ?_) (a' := ?_) #[true, false, false, false, false, false] rfl rfl (by kernel_rfl) (fun _ _ _ h => h) (Or.inl ⟨by rfl, ?_⟩) ?_ ?_; rotate_left
    ·intro w'; go_simp; with_reducible rfl
    rotate_left
    ·simp only [Act.put, sa_, sz_, ss_, i64_w, i32_w]; rfl
    refine pure_ (i := 1) (N := some 21) (v := ?_) (a' := ?_) #[true, true, false, false, false, false] rfl rfl (by kernel_rfl) (fun _ _ _ h => h) (Or.inl ⟨by rfl, ?_⟩) ?_ ?_; rotate_left
    ·intro w'; go_simp; with_reducible rfl
    rotate_left
    ·simp only [Act.put, sa_, sz_, ss_, i64_w, i32_w]; rfl
    refine pure_ (i := 2) (N := some 22) (v := ?_) (a' := ?_) #[true, true, true, false, false, false] rfl rfl (by kernel_rfl) (fun _ _ _ h => h) (Or.inl ⟨by rfl, ?_⟩) ?_ ?_; rotate_left
    ·intro w'; go_simp; with_reducible rfl
    rotate_left
    ·simp only [Act.put, sa_, sz_, ss_, i64_w, i32_w]; rfl
    refine one_ (i := 3) (N := none) #[true, true, true, true, false, false] rfl rfl (by kernel_rfl) (by decide) (fun K hK => ?_); have hs16 : w15.cell? ⟨gb463, 0, none⟩ = some (.int .i64 0) := (blk_cell BK463.out 0).trans rfl; have hfs16 := blk_frozen BK463.out 0; have hs17 : w15.cell? ⟨gb463, 1, none⟩ = some (.string (⟨#[]⟩ : ByteArray)) := (blk_cell BK463.out 1).trans rfl; have hfs17 := blk_frozen BK463.out 1; refine skip_ (w1 := ?_) (by rfl) rfl ?_ ?_; rotate_left
    ·go_simp; rfl
    refine hK.out _ _ trivial (fun hHeld => ?_); clear hK K; refine pure_ (i := 4) (N := some 3) (v := ?_) (a' := ?_) #[true, true, true, true, true, false] rfl rfl (by kernel_rfl) (fun _ _ _ h => h) (Or.inl ⟨by rfl, ?_⟩) ?_ ?_; rotate_left
    ·intro w'; go_simp; with_reducible rfl
    rotate_left
    ·simp only [Act.put, sa_, sz_, ss_, i64_w, i32_w]; rfl
    refine pure_ (i := 5) (N := some 4) (v := ?_) (a' := ?_) #[true, true, true, true, true, true] rfl rfl (by kernel_rfl) (fun _ _ _ h => h) (Or.inl ⟨by rfl, ?_⟩) ?_ ?_; rotate_left
    ·intro w'; go_simp; with_reducible rfl
    rotate_left
    ·simp only [Act.put, sa_, sz_, ss_, i64_w, i32_w]; rfl
    refine done_ (by kernel_rfl) ?_
    try go_wp2
    refine bodyPost_ret (results_ctt rfl _ _ gb463 194 #[.int .i64 0, .string (⟨#[]⟩ : ByteArray)] (0, 0) _ rfl (by (with_reducible repeat (first | refine blk_drewN ?_ _ | refine blk_drew ?_ | refine blk_alloc ?_ _)); refine blk_put (cs := #[.int .i64 0, .string (⟨#[]⟩ : ByteArray)]) ?_ 1 _ rfl; (with_reducible repeat (first | refine blk_drewN ?_ _ | refine blk_drew ?_ | refine blk_alloc ?_ _)); exact blk_put (cs := #[.int .i64 0, .string (⟨#[]⟩ : ByteArray)]) bk 0 _ rfl) Tryz.underlying194 rfl (by kernel_rfl)) rfl ?_; exact ⟨ew, bwS⟩
   rw [if_neg c13] at H; exact absurd H (by simp)
  replace c12 := Bool.eq_false_iff.mpr c12; subst c12; rw [if_neg nft] at H
  by_cases c18 : (bt a0 0) = 40
  ·rw [if_pos c18] at H; have c18b0 := beq_iff_eq.mpr c18; have c18b1 := bne_eq_false_iff_eq.mpr c18; clear c18; replace H := Option.bind_eq_some_iff.mp H; obtain ⟨⟨t466, t467⟩, A190, H⟩ := H; replace H : (some (0, (⟨#[]⟩ : ByteArray), t466, t467)) = some (r1, r2, r3, r4) := H; have A19 := Aside0.mk A190; clear A190; simp only [Option.some.injEq, Prod.mk.injEq] at H; obtain ⟨rfl, rfl, rfl, rfl⟩ := H
   go_enter Tryz.func181, Tryz.ntmps181
   go_wp2_with (first | ((with_reducible refine gate_dst (N := 2) rfl ?_); refine box_event ?hg (N := 2) ?hd (cs := #[.int .i64 0, .string (⟨#[]⟩ : ByteArray)]) (t := 194) ?hr ?_; (case hd => rfl); (case hg => rfl); (case hr => first | (go_simp; done) | (go_simp; rfl)); intro gb463 hg w20 hbox hb; have n0_ := Aside0.mk (below_step bw hb); have n1_ := Aside0.mk (hbox); have n2_ := Aside0.mk ((by rw [hg]; exact (below_size bw) : w.heap.size ≤ gb463)); have n3_ := Aside0.mk ((by rw [hg]; exact (below_size bw) : w.heap.size ≤ gb463)); clear HB; have HB := n0_; have BK463 := n1_; have GW463 := n2_; have GE463 := n3_; clear n0_ n1_ n2_ n3_; clear hb hbox hg; have p3 : 0 ≤ (0 : Int) := (by omega); have q3 : 0 < a0.size := (by have : (0 : Int) < (a0.size : Int) := od; omega); have hx3 : ∀ h : 0 < a0.size, ((a0[0]'h).toNat : Int) = bt a0 0 := bt_at a0 0; clear p3; have qi3 : (0 < (a0.size : Int)) = True := eq_true (od); replace q3 := eq_true q3) | ((with_reducible refine gate_callee (f := 198) rfl ?_); refine goesL_ (some 13) rfl rfl Tryz.func198 (by kernel_rfl) rfl #[.int .u8 (bt a0 0)] rfl am ?_; (with_reducible refine (lex_white.calls (bt a0 0) false _ A4.out).mono ?_); rintro e w' ⟨rfl, ⟨nd, rfl⟩⟩; refine ⟨_, rfl, ?_⟩; (try (rw [drewN_self w20]; generalize hq_ : World.drewN w20 _ = w20; have n0_ : Aside0 (w20.heap[gb463]? = some (.cells #[.int .i64 0, .string (⟨#[]⟩ : ByteArray)] 194 (0, 0))) := ⟨by rw [← hq_]; exact bk⟩; have n1_ : Aside0 (Below w.heap.size w w20) := ⟨by rw [← hq_]; exact bwS⟩; clear BK463 HB hq_; have BK463 := n0_; have HB := n1_; clear n0_ n1_))) | ((with_reducible refine gate_callee (f := 199) rfl ?_); refine goesL_ (some 19) rfl rfl Tryz.func199 (by kernel_rfl) rfl #[.string a0] rfl am ?_; (with_reducible refine (lex_fold.calls a0 false _ A11.out).mono ?_); rintro e w' ⟨rfl, ⟨nd, rfl⟩⟩; refine ⟨_, rfl, ?_⟩; (try (rw [drewN_self w20]; generalize hq_ : World.drewN w20 _ = w20; have n0_ : Aside0 (w20.heap[gb463]? = some (.cells #[.int .i64 0, .string (⟨#[]⟩ : ByteArray)] 194 (0, 0))) := ⟨by rw [← hq_]; exact bk⟩; have n1_ : Aside0 (Below w.heap.size w w20) := ⟨by rw [← hq_]; exact bwS⟩; clear BK463 HB hq_; have BK463 := n0_; have HB := n1_; clear n0_ n1_))) | ((with_reducible refine gate_callee (f := 200) rfl ?_); refine goesL_ (some 28) rfl rfl Tryz.func200 (by kernel_rfl) rfl #[.string a0] rfl am ?_; (with_reducible refine (lex_comment.calls k a0 t466 t467 _ A19.out).mono ?_); rintro e w' ⟨rfl, ⟨nd, rfl⟩⟩; refine ⟨_, rfl, ?_⟩; (try (rw [drewN_self w20]; generalize hq_ : World.drewN w20 _ = w20; have n0_ : Aside0 (w20.heap[gb463]? = some (.cells #[.int .i64 0, .string (⟨#[]⟩ : ByteArray)] 194 (0, 0))) := ⟨by rw [← hq_]; exact bk⟩; have n1_ : Aside0 (Below w.heap.size w w20) := ⟨by rw [← hq_]; exact bwS⟩; clear BK463 HB hq_; have BK463 := n0_; have HB := n1_; clear n0_ n1_)); obtain ⟨hcz21_0, hcz21_1⟩ := ce2 BK463; obtain ⟨hfz21_0, hfz21_1⟩ := fz2 BK463))
   refine bodyPost_ret (results_ctt rfl _ _ gb463 194 #[.int .i64 0, .string (⟨#[]⟩ : ByteArray)] (0, 0) _ rfl (by (with_reducible repeat (first | refine blk_drewN ?_ _ | refine blk_drew ?_ | refine blk_alloc ?_ _)); refine blk_put (cs := #[.int .i64 0, .string (⟨#[]⟩ : ByteArray)]) ?_ 1 _ rfl; (with_reducible repeat (first | refine blk_drewN ?_ _ | refine blk_drew ?_ | refine blk_alloc ?_ _)); exact blk_put (cs := #[.int .i64 0, .string (⟨#[]⟩ : ByteArray)]) bk 0 _ rfl) Tryz.underlying194 rfl (by kernel_rfl)) rfl ?_; exact ⟨ew, bwS⟩
  rw [if_neg c18] at H; have c18b0 := beq_eq_false_iff_ne.mpr c18; have c18b1 := bne_iff_ne.mpr c18
  by_cases c22 : (bt a0 0) = 34
  ·rw [if_pos c22] at H; have c22b0 := beq_iff_eq.mpr c22; have c22b1 := bne_eq_false_iff_eq.mpr c22; clear c22; replace H := Option.bind_eq_some_iff.mp H; obtain ⟨⟨t468, t469, t470, t471⟩, A230, H⟩ := H; replace H : (some (t468, t469, t470, t471)) = some (r1, r2, r3, r4) := H; have A23 := Aside0.mk A230; clear A230; simp only [Option.some.injEq, Prod.mk.injEq] at H; obtain ⟨rfl, rfl, rfl, rfl⟩ := H
   go_enter Tryz.func181, Tryz.ntmps181
   go_wp2_with (first | ((with_reducible refine gate_dst (N := 2) rfl ?_); refine box_event ?hg (N := 2) ?hd (cs := #[.int .i64 0, .string (⟨#[]⟩ : ByteArray)]) (t := 194) ?hr ?_; (case hd => rfl); (case hg => rfl); (case hr => first | (go_simp; done) | (go_simp; rfl)); intro gb463 hg w24 hbox hb; have n0_ := Aside0.mk (below_step bw hb); have n1_ := Aside0.mk (hbox); have n2_ := Aside0.mk ((by rw [hg]; exact (below_size bw) : w.heap.size ≤ gb463)); have n3_ := Aside0.mk ((by rw [hg]; exact (below_size bw) : w.heap.size ≤ gb463)); clear HB; have HB := n0_; have BK463 := n1_; have GW463 := n2_; have GE463 := n3_; clear n0_ n1_ n2_ n3_; clear hb hbox hg; have p3 : 0 ≤ (0 : Int) := (by omega); have q3 : 0 < a0.size := (by have : (0 : Int) < (a0.size : Int) := od; omega); have hx3 : ∀ h : 0 < a0.size, ((a0[0]'h).toNat : Int) = bt a0 0 := bt_at a0 0; clear p3; have qi3 : (0 < (a0.size : Int)) = True := eq_true (od); replace q3 := eq_true q3) | ((with_reducible refine gate_callee (f := 198) rfl ?_); refine goesL_ (some 13) rfl rfl Tryz.func198 (by kernel_rfl) rfl #[.int .u8 (bt a0 0)] rfl am ?_; (with_reducible refine (lex_white.calls (bt a0 0) false _ A4.out).mono ?_); rintro e w' ⟨rfl, ⟨nd, rfl⟩⟩; refine ⟨_, rfl, ?_⟩; (try (rw [drewN_self w24]; generalize hq_ : World.drewN w24 _ = w24; have n0_ : Aside0 (w24.heap[gb463]? = some (.cells #[.int .i64 0, .string (⟨#[]⟩ : ByteArray)] 194 (0, 0))) := ⟨by rw [← hq_]; exact bk⟩; have n1_ : Aside0 (Below w.heap.size w w24) := ⟨by rw [← hq_]; exact bwS⟩; clear BK463 HB hq_; have BK463 := n0_; have HB := n1_; clear n0_ n1_))) | ((with_reducible refine gate_callee (f := 199) rfl ?_); refine goesL_ (some 19) rfl rfl Tryz.func199 (by kernel_rfl) rfl #[.string a0] rfl am ?_; (with_reducible refine (lex_fold.calls a0 false _ A11.out).mono ?_); rintro e w' ⟨rfl, ⟨nd, rfl⟩⟩; refine ⟨_, rfl, ?_⟩; (try (rw [drewN_self w24]; generalize hq_ : World.drewN w24 _ = w24; have n0_ : Aside0 (w24.heap[gb463]? = some (.cells #[.int .i64 0, .string (⟨#[]⟩ : ByteArray)] 194 (0, 0))) := ⟨by rw [← hq_]; exact bk⟩; have n1_ : Aside0 (Below w.heap.size w w24) := ⟨by rw [← hq_]; exact bwS⟩; clear BK463 HB hq_; have BK463 := n0_; have HB := n1_; clear n0_ n1_))) | ((with_reducible refine gate_callee (f := 201) rfl ?_); refine goesL_ (some 38) rfl rfl Tryz.func201 (by kernel_rfl) rfl #[.string a0] rfl am ?_; (with_reducible refine (lex_quoted.calls k a0 t468 t469 t470 t471 _ A23.out).mono ?_); rintro e w25 ⟨rfl, hb⟩; refine ⟨_, rfl, ?_⟩; have n0_ := Aside0.mk (blk_below (g := gb463) (o := .cells #[.int .i64 0, .string (⟨#[]⟩ : ByteArray)] 194 (0, 0)) bk hb); have n1_ := Aside0.mk (below_step bwS hb); clear BK463; clear HB; have BK463 := n0_; have HB := n1_; clear n0_ n1_; (try clear hb); (try clear hb2); (try clear hk); (try clear hi); obtain ⟨hcz26_0, hcz26_1⟩ := ce2 BK463; obtain ⟨hfz26_0, hfz26_1⟩ := fz2 BK463))
   refine bodyPost_ret (results_ctt rfl _ _ gb463 194 #[.int .i64 t468, .string t469] (0, 0) _ rfl (by (with_reducible repeat (first | refine blk_drewN ?_ _ | refine blk_drew ?_ | refine blk_alloc ?_ _)); refine blk_put (cs := #[.int .i64 t468, .string (⟨#[]⟩ : ByteArray)]) ?_ 1 _ rfl; (with_reducible repeat (first | refine blk_drewN ?_ _ | refine blk_drew ?_ | refine blk_alloc ?_ _)); exact blk_put (cs := #[.int .i64 0, .string (⟨#[]⟩ : ByteArray)]) bk 0 _ rfl) Tryz.underlying194 rfl (by kernel_rfl)) rfl ?_; exact ⟨ew, bwS⟩
  rw [if_neg c22] at H; have c22b0 := beq_eq_false_iff_ne.mpr c22; have c22b1 := bne_iff_ne.mpr c22; replace H := Option.bind_eq_some_iff.mp H; obtain ⟨t472, A270, H⟩ := H; have A27 := Aside0.mk A270; clear A270
  by_cases c28 : t472 = true
  ·subst c28; rw [if_pos rfl] at H
   by_cases c29 : 0 ≤ 1
   ·rw [if_pos c29] at H; have c29b0 := eq_true c29; have c29b1 := decide_eq_true c29; clear c29
    by_cases c30 : 1 ≤ (a0.size : Int)
    ·rw [if_pos c30] at H; have c30b0 := eq_true c30; have c30b1 := decide_eq_true c30; clear c30; have c31b0 := eq_true (od : 1 ≤ (a0.size : Int)); simp only [Option.some.injEq, Prod.mk.injEq] at H; obtain ⟨rfl, rfl, rfl, rfl⟩ := H
     go_enter Tryz.func181, Tryz.ntmps181
     try go_wp2_with (first | ((with_reducible refine gate_dst (N := 2) rfl ?_); refine box_event ?hg (N := 2) ?hd (cs := #[.int .i64 0, .string (⟨#[]⟩ : ByteArray)]) (t := 194) ?hr ?_; (case hd => rfl); (case hg => rfl); (case hr => first | (go_simp; done) | (go_simp; rfl)); intro gb463 hg w32 hbox hb; have n0_ := Aside0.mk (below_step bw hb); have n1_ := Aside0.mk (hbox); have n2_ := Aside0.mk ((by rw [hg]; exact (below_size bw) : w.heap.size ≤ gb463)); have n3_ := Aside0.mk ((by rw [hg]; exact (below_size bw) : w.heap.size ≤ gb463)); clear HB; have HB := n0_; have BK463 := n1_; have GW463 := n2_; have GE463 := n3_; clear n0_ n1_ n2_ n3_; clear hb hbox hg; have p3 : 0 ≤ (0 : Int) := (by omega); have q3 : 0 < a0.size := (by have : (0 : Int) < (a0.size : Int) := od; omega); have hx3 : ∀ h : 0 < a0.size, ((a0[0]'h).toNat : Int) = bt a0 0 := bt_at a0 0; clear p3; have qi3 : (0 < (a0.size : Int)) = True := eq_true (od); replace q3 := eq_true q3) | ((with_reducible refine gate_callee (f := 198) rfl ?_); refine goesL_ (some 13) rfl rfl Tryz.func198 (by kernel_rfl) rfl #[.int .u8 (bt a0 0)] rfl am ?_; (with_reducible refine (lex_white.calls (bt a0 0) false _ A4.out).mono ?_); rintro e w' ⟨rfl, ⟨nd, rfl⟩⟩; refine ⟨_, rfl, ?_⟩; (try (rw [drewN_self w32]; generalize hq_ : World.drewN w32 _ = w32; have n0_ : Aside0 (w32.heap[gb463]? = some (.cells #[.int .i64 0, .string (⟨#[]⟩ : ByteArray)] 194 (0, 0))) := ⟨by rw [← hq_]; exact bk⟩; have n1_ : Aside0 (Below w.heap.size w w32) := ⟨by rw [← hq_]; exact bwS⟩; clear BK463 HB hq_; have BK463 := n0_; have HB := n1_; clear n0_ n1_))) | ((with_reducible refine gate_callee (f := 199) rfl ?_); refine goesL_ (some 19) rfl rfl Tryz.func199 (by kernel_rfl) rfl #[.string a0] rfl am ?_; (with_reducible refine (lex_fold.calls a0 false _ A11.out).mono ?_); rintro e w' ⟨rfl, ⟨nd, rfl⟩⟩; refine ⟨_, rfl, ?_⟩; (try (rw [drewN_self w32]; generalize hq_ : World.drewN w32 _ = w32; have n0_ : Aside0 (w32.heap[gb463]? = some (.cells #[.int .i64 0, .string (⟨#[]⟩ : ByteArray)] 194 (0, 0))) := ⟨by rw [← hq_]; exact bk⟩; have n1_ : Aside0 (Below w.heap.size w w32) := ⟨by rw [← hq_]; exact bwS⟩; clear BK463 HB hq_; have BK463 := n0_; have HB := n1_; clear n0_ n1_))) | ((with_reducible refine gate_callee (f := 202) rfl ?_); refine goesL_ (some 44) rfl rfl Tryz.func202 (by kernel_rfl) rfl #[.int .u8 (bt a0 0)] rfl am ?_; (with_reducible refine (lex_sign.calls (bt a0 0) true _ A27.out).mono ?_); rintro e w' ⟨rfl, ⟨nd, rfl⟩⟩; refine ⟨_, rfl, ?_⟩; (try (rw [drewN_self w32]; generalize hq_ : World.drewN w32 _ = w32; have n0_ : Aside0 (w32.heap[gb463]? = some (.cells #[.int .i64 0, .string (⟨#[]⟩ : ByteArray)] 194 (0, 0))) := ⟨by rw [← hq_]; exact bk⟩; have n1_ : Aside0 (Below w.heap.size w w32) := ⟨by rw [← hq_]; exact bwS⟩; clear BK463 HB hq_; have BK463 := n0_; have HB := n1_; clear n0_ n1_))))
     have n0_ := Aside0.mk (blk_drew BK463.out); have n1_ := Aside0.mk (below_drew1 HB.out); clear BK463 HB; have BK463 := n0_; have HB := n1_; clear n0_ n1_; refine start_ (n := 8) (S := fun w' => True) (ds := []) #[false, false, false, false, false, false, false, false] (by kernel_rfl) rfl rfl trivial (fun hHeld => ?_); refine with_tabW lex_next.tab12 lex_next.bits12 (fun HT_ HW_ => ?_)
     generalize w32.drew = w33 at BK463 HB hHeld ⊢
     refine pure_ (i := 0) (N := some 45) (v := ?_) (a' := ?_) (bitsL 8 1) rfl rfl (any_of HT_.out (by kernel_rfl)) (fun _ _ _ h => h) (Or.inl ⟨by rfl, ?_⟩) ?_ ?_; rotate_left
     ·intro w'; go_simp; with_reducible rfl
     rotate_left
     ·simp only [Act.put, sa_, sz_, ss_, i64_w, i32_w]; rfl
     refine pure_ (i := 1) (N := some 46) (v := ?_) (a' := ?_) (bitsL 8 3) rfl rfl (any_of HT_.out (by kernel_rfl)) (fun _ _ _ h => h) (Or.inl ⟨by rfl, ?_⟩) ?_ ?_; rotate_left
     ·intro w'; go_simp; with_reducible rfl
     rotate_left
     ·simp only [Act.put, sa_, sz_, ss_, i64_w, i32_w]; rfl
     refine pure_ (i := 2) (N := some 47) (v := ?_) (a' := ?_) (bitsL 8 7) rfl rfl (any_of HT_.out (by kernel_rfl)) (fun _ _ _ h => h) (Or.inl ⟨by rfl, ?_⟩) ?_ ?_; rotate_left
     ·intro w'; go_simp; with_reducible rfl
     rotate_left
     ·simp only [Act.put, sa_, sz_, ss_, i64_w, i32_w]; rfl
     refine pure_ (i := 3) (N := some 48) (v := ?_) (a' := ?_) (bitsL 8 15) rfl rfl (any_of HT_.out (by kernel_rfl)) (fun _ _ _ h => h) (Or.inl ⟨by rfl, ?_⟩) ?_ ?_; rotate_left
     ·intro w'; go_simp; with_reducible rfl
     rotate_left
     ·simp only [Act.put, sa_, sz_, ss_, i64_w, i32_w]; rfl
     refine pure_ (i := 4) (N := some 49) (v := ?_) (a' := ?_) (bitsL 8 31) rfl rfl (any_of HT_.out (by kernel_rfl)) (fun _ _ _ h => h) (Or.inl ⟨by rfl, ?_⟩) ?_ ?_; rotate_left
     ·intro w'; go_simp; with_reducible rfl
     rotate_left
     ·simp only [Act.put, sa_, sz_, ss_, i64_w, i32_w]; rfl
     refine one_ (i := 5) (N := none) (bitsL 8 63) rfl rfl (one_of HT_.out (by kernel_rfl)) (by decide) (fun K hK => ?_); have hs34 : w33.cell? ⟨gb463, 0, none⟩ = some (.int .i64 0) := (blk_cell BK463.out 0).trans rfl; have hfs34 := blk_frozen BK463.out 0; have hs35 : w33.cell? ⟨gb463, 1, none⟩ = some (.string (⟨#[]⟩ : ByteArray)) := (blk_cell BK463.out 1).trans rfl; have hfs35 := blk_frozen BK463.out 1; refine skip_ (w1 := ?_) (by rfl) rfl ?_ ?_; rotate_left
     ·go_simp; rfl
     refine hK.out _ _ trivial (fun hHeld => ?_); clear hK K; refine pure_ (i := 6) (N := some 3) (v := ?_) (a' := ?_) (bitsL 8 127) rfl rfl (any_of HT_.out (by kernel_rfl)) (fun _ _ _ h => h) (Or.inl ⟨by rfl, ?_⟩) ?_ ?_; rotate_left
     ·intro w'; go_simp; with_reducible rfl
     rotate_left
     ·simp only [Act.put, sa_, sz_, ss_, i64_w, i32_w]; rfl
     refine pure_ (i := 7) (N := some 4) (v := ?_) (a' := ?_) (bitsL 8 255) rfl rfl (any_of HT_.out (by kernel_rfl)) (fun _ _ _ h => h) (Or.inl ⟨by rfl, ?_⟩) ?_ ?_; rotate_left
     ·intro w'; go_simp; with_reducible rfl
     rotate_left
     ·simp only [Act.put, sa_, sz_, ss_, i64_w, i32_w]; rfl
     refine done_ (done_of HT_.out (by kernel_rfl)) ?_
     try go_wp2
     refine bodyPost_ret (results_ctt rfl _ _ gb463 194 #[.int .i64 3, .string (a0.extract 0 1)] (0, 0) _ rfl (by (with_reducible repeat (first | refine blk_drewN ?_ _ | refine blk_drew ?_ | refine blk_alloc ?_ _)); refine blk_put (cs := #[.int .i64 3, .string (⟨#[]⟩ : ByteArray)]) ?_ 1 _ rfl; (with_reducible repeat (first | refine blk_drewN ?_ _ | refine blk_drew ?_ | refine blk_alloc ?_ _)); exact blk_put (cs := #[.int .i64 0, .string (⟨#[]⟩ : ByteArray)]) bk 0 _ rfl) Tryz.underlying194 rfl (by kernel_rfl)) rfl ?_; exact ⟨ew, bwS⟩
    rw [if_neg c30] at H; exact absurd H (by simp)
   exact absurd c29 (by decide)
  replace c28 := Bool.eq_false_iff.mpr c28; subst c28; rw [if_neg nft] at H; have H' := Aside0.mk H; clear H
  go_enter Tryz.func181, Tryz.ntmps181
  go_wp2_with (first | ((with_reducible refine gate_dst (N := 2) rfl ?_); refine box_event ?hg (N := 2) ?hd (cs := #[.int .i64 0, .string (⟨#[]⟩ : ByteArray)]) (t := 194) ?hr ?_; (case hd => rfl); (case hg => rfl); (case hr => first | (go_simp; done) | (go_simp; rfl)); intro gb463 hg w36 hbox hb; have n0_ := Aside0.mk (below_step bw hb); have n1_ := Aside0.mk (hbox); have n2_ := Aside0.mk ((by rw [hg]; exact (below_size bw) : w.heap.size ≤ gb463)); have n3_ := Aside0.mk ((by rw [hg]; exact (below_size bw) : w.heap.size ≤ gb463)); clear HB; have HB := n0_; have BK463 := n1_; have GW463 := n2_; have GE463 := n3_; clear n0_ n1_ n2_ n3_; clear hb hbox hg; have p3 : 0 ≤ (0 : Int) := (by omega); have q3 : 0 < a0.size := (by have : (0 : Int) < (a0.size : Int) := od; omega); have hx3 : ∀ h : 0 < a0.size, ((a0[0]'h).toNat : Int) = bt a0 0 := bt_at a0 0; clear p3; have qi3 : (0 < (a0.size : Int)) = True := eq_true (od); replace q3 := eq_true q3) | ((with_reducible refine gate_callee (f := 198) rfl ?_); refine goesL_ (some 13) rfl rfl Tryz.func198 (by kernel_rfl) rfl #[.int .u8 (bt a0 0)] rfl am ?_; (with_reducible refine (lex_white.calls (bt a0 0) false _ A4.out).mono ?_); rintro e w' ⟨rfl, ⟨nd, rfl⟩⟩; refine ⟨_, rfl, ?_⟩) | ((with_reducible refine gate_callee (f := 199) rfl ?_); refine goesL_ (some 19) rfl rfl Tryz.func199 (by kernel_rfl) rfl #[.string a0] rfl am ?_; (with_reducible refine (lex_fold.calls a0 false _ A11.out).mono ?_); rintro e w' ⟨rfl, ⟨nd, rfl⟩⟩; refine ⟨_, rfl, ?_⟩) | ((with_reducible refine gate_callee (f := 202) rfl ?_); refine goesL_ (some 44) rfl rfl Tryz.func202 (by kernel_rfl) rfl #[.int .u8 (bt a0 0)] rfl am ?_; (with_reducible refine (lex_sign.calls (bt a0 0) false _ A27.out).mono ?_); rintro e w' ⟨rfl, ⟨nd, rfl⟩⟩; refine ⟨_, rfl, ?_⟩))
  go_loopg [8] k (fun kq v8 w' => ∃ (x8_1 : Int), v8 = .int .i64 x8_1 ∧ Aside0 (lex_next.l0 kq a0 x8_1 = some (r1, r2, r3, r4)) ∧ Aside0 (kq ≤ k) ∧ Aside0 (w'.heap[gb463]? = some (.cells #[.int .i64 0, .string (⟨#[]⟩ : ByteArray)] 194 (0, 0))) ∧ Aside0 (Below w.heap.size w w'))
  case atStart => exact ⟨(0), cl, H', ⟨Nat.le_refl _⟩, ⟨bk⟩, ⟨bwS⟩⟩
  case round =>
   clear H' c2b0 c2b1 q3 hx3 qi3 c18 c18b0 c18b1 c22 c22b0 c22b1; obtain ⟨x8_1, rfl, HA, HK1, BK463, HB⟩ := hrel; cases gk with
   | zero => exact absurd HA.out (by simp [lex_next.l0])
   | succ k1 =>
    have H := HA.out; clear HA; simp only [lex_next.l0] at H
    by_cases c37 : x8_1 < (a0.size : Int)
    ·rw [if_pos c37] at H; have c37b0 := decide_eq_true c37; clear c37
     by_cases c38 : 0 ≤ x8_1
     ·rw [if_pos c38] at H; have c38b0 := decide_eq_true c38; clear c38; replace H := Option.bind_eq_some_iff.mp H; obtain ⟨t473, A400, H⟩ := H; have A40 := Aside0.mk A400; clear A400
      by_cases c41 : t473 = true
      ·subst c41; rw [if_pos rfl] at H; have H' := Aside0.mk H; clear H; have p39 : 0 ≤ (x8_1 : Int) := od; have q39 : x8_1 < (a0.size : Int) := od; have hx39 := bt_at a0 x8_1; replace p39 := eq_true p39; replace q39 := eq_true q39
       go_wp2_with (first | (go_at_call 142; (with_reducible refine (lex_atomic.calls (bt a0 x8_1) true _ A40.out).mono ?_); rintro e w' ⟨rfl, ⟨nd, rfl⟩⟩))
       go_roundg k1
       case measure => have := HK1.out; omega
       case rel => exact ⟨(wrap64 (x8_1 + 1)), cl, H', ⟨by have := HK1.out; omega⟩, ⟨bk⟩, ⟨bwS⟩⟩
      replace c41 := Bool.eq_false_iff.mpr c41; subst c41; rw [if_neg nft] at H
      by_cases c42 : x8_1 = 0
      ·rw [if_pos c42] at H; have c42b0 := beq_iff_eq.mpr c42; have c42b1 := bne_eq_false_iff_eq.mpr c42; clear c42; simp only [Option.some.injEq, Prod.mk.injEq] at H; obtain ⟨rfl, rfl, rfl, rfl⟩ := H; have p39 : 0 ≤ (x8_1 : Int) := od; have q39 : x8_1 < (a0.size : Int) := od; have hx39 := bt_at a0 x8_1; replace p39 := eq_true p39; replace q39 := eq_true q39
       go_wp2_with (first | (go_at_call 142; (with_reducible refine (lex_atomic.calls (bt a0 x8_1) false _ A40.out).mono ?_); rintro e w' ⟨rfl, ⟨nd, rfl⟩⟩; (try (rw [drewN_self wr]; generalize hq_ : World.drewN wr _ = wr; have n0_ : Aside0 (wr.heap[gb463]? = some (.cells #[.int .i64 0, .string (⟨#[]⟩ : ByteArray)] 194 (0, 0))) := ⟨by rw [← hq_]; exact bk⟩; have n1_ : Aside0 (Below w.heap.size w wr) := ⟨by rw [← hq_]; exact bwS⟩; clear BK463 HB hq_; have BK463 := n0_; have HB := n1_; clear n0_ n1_)); obtain ⟨hcz43_0, hcz43_1⟩ := ce2 BK463; obtain ⟨hfz43_0, hfz43_1⟩ := fz2 BK463))
       refine bodyPost_ret (results_ctt rfl _ _ gb463 194 #[.int .i64 0, .string (⟨#[]⟩ : ByteArray)] (0, 0) _ rfl (by (with_reducible repeat (first | refine blk_drewN ?_ _ | refine blk_drew ?_ | refine blk_alloc ?_ _)); refine blk_put (cs := #[.int .i64 0, .string (⟨#[]⟩ : ByteArray)]) ?_ 1 _ rfl; (with_reducible repeat (first | refine blk_drewN ?_ _ | refine blk_drew ?_ | refine blk_alloc ?_ _)); exact blk_put (cs := #[.int .i64 0, .string (⟨#[]⟩ : ByteArray)]) bk 0 _ rfl) Tryz.underlying194 rfl (by kernel_rfl)) rfl ?_; exact ⟨ew, bwS⟩
      rw [if_neg c42] at H; have c42b0 := beq_eq_false_iff_ne.mpr c42; have c42b1 := bne_iff_ne.mpr c42; have c44b0 := eq_true (od : 0 ≤ x8_1)
      by_cases c45 : x8_1 ≤ (a0.size : Int)
      ·rw [if_pos c45] at H; have c45b0 := eq_true c45; have c45b1 := decide_eq_true c45; clear c45; have c46b0 := eq_true (od : 0 ≤ x8_1); have c47b0 := eq_true (od : x8_1 ≤ (a0.size : Int)); simp only [Option.some.injEq, Prod.mk.injEq] at H; obtain ⟨rfl, rfl, rfl, rfl⟩ := H; have p39 : 0 ≤ (x8_1 : Int) := od; have q39 : x8_1 < (a0.size : Int) := od; have hx39 := bt_at a0 x8_1; replace p39 := eq_true p39; replace q39 := eq_true q39
       try go_wp2_with (first | (go_at_call 142; (with_reducible refine (lex_atomic.calls (bt a0 x8_1) false _ A40.out).mono ?_); rintro e w' ⟨rfl, ⟨nd, rfl⟩⟩; (try (rw [drewN_self wr]; generalize hq_ : World.drewN wr _ = wr; have n0_ : Aside0 (wr.heap[gb463]? = some (.cells #[.int .i64 0, .string (⟨#[]⟩ : ByteArray)] 194 (0, 0))) := ⟨by rw [← hq_]; exact bk⟩; have n1_ : Aside0 (Below w.heap.size w wr) := ⟨by rw [← hq_]; exact bwS⟩; clear BK463 HB hq_; have BK463 := n0_; have HB := n1_; clear n0_ n1_))))
       have n0_ := Aside0.mk (blk_drew BK463.out); have n1_ := Aside0.mk (below_drew1 HB.out); clear BK463 HB; have BK463 := n0_; have HB := n1_; clear n0_ n1_; refine start_ (n := 10) (S := fun w' => True) (ds := []) #[false, false, false, false, false, false, false, false, false, false] (by kernel_rfl) rfl rfl trivial (fun hHeld => ?_); refine with_tabW lex_next.tab18 lex_next.bits18 (fun HT_ HW_ => ?_)
       generalize wr.drew = w48 at BK463 HB hHeld ⊢
       refine pure_ (i := 0) (N := some 65) (v := ?_) (a' := ?_) (bitsL 10 1) rfl rfl (any_of HT_.out (by kernel_rfl)) (fun _ _ _ h => h) (Or.inl ⟨by rfl, ?_⟩) ?_ ?_; rotate_left
       ·intro w'; go_simp; with_reducible rfl
       rotate_left
       ·simp only [Act.put, sa_, sz_, ss_, i64_w, i32_w]; rfl
       refine pure_ (i := 1) (N := some 66) (v := ?_) (a' := ?_) (bitsL 10 3) rfl rfl (any_of HT_.out (by kernel_rfl)) (fun _ _ _ h => h) (Or.inl ⟨by rfl, ?_⟩) ?_ ?_; rotate_left
       ·intro w'; go_simp; with_reducible rfl
       rotate_left
       ·simp only [Act.put, sa_, sz_, ss_, i64_w, i32_w]; rfl
       refine pure_ (i := 2) (N := some 67) (v := ?_) (a' := ?_) (bitsL 10 7) rfl rfl (any_of HT_.out (by kernel_rfl)) (fun _ _ _ h => h) (Or.inl ⟨by rfl, ?_⟩) ?_ ?_; rotate_left
       ·intro w'; go_simp; with_reducible rfl
       rotate_left
       ·simp only [Act.put, sa_, sz_, ss_, i64_w, i32_w]; rfl
       refine pure_ (i := 3) (N := some 68) (v := ?_) (a' := ?_) (bitsL 10 15) rfl rfl (any_of HT_.out (by kernel_rfl)) (fun _ _ _ h => h) (Or.inl ⟨by rfl, ?_⟩) ?_ ?_; rotate_left
       ·intro w'; go_simp; with_reducible rfl
       rotate_left
       ·simp only [Act.put, sa_, sz_, ss_, i64_w, i32_w]; rfl
       refine pure_ (i := 4) (N := some 69) (v := ?_) (a' := ?_) (bitsL 10 31) rfl rfl (any_of HT_.out (by kernel_rfl)) (fun _ _ _ h => h) (Or.inl ⟨by rfl, ?_⟩) ?_ ?_; rotate_left
       ·intro w'; go_simp; with_reducible rfl
       rotate_left
       ·simp only [Act.put, sa_, sz_, ss_, i64_w, i32_w]; rfl
       refine pure_ (i := 5) (N := some 70) (v := ?_) (a' := ?_) (bitsL 10 63) rfl rfl (any_of HT_.out (by kernel_rfl)) (fun _ _ _ h => h) (Or.inl ⟨by rfl, ?_⟩) ?_ ?_; rotate_left
       ·intro w'; go_simp; with_reducible rfl
       rotate_left
       ·simp only [Act.put, sa_, sz_, ss_, i64_w, i32_w]; rfl
       refine pure_ (i := 6) (N := some 71) (v := ?_) (a' := ?_) (bitsL 10 127) rfl rfl (any_of HT_.out (by kernel_rfl)) (fun _ _ _ h => h) (Or.inl ⟨by rfl, ?_⟩) ?_ ?_; rotate_left
       ·intro w'; go_simp; with_reducible rfl
       rotate_left
       ·simp only [Act.put, sa_, sz_, ss_, i64_w, i32_w]; rfl
       refine one_ (i := 7) (N := none) (bitsL 10 255) rfl rfl (one_of HT_.out (by kernel_rfl)) (by decide) (fun K hK => ?_); have hs49 : w48.cell? ⟨gb463, 0, none⟩ = some (.int .i64 0) := (blk_cell BK463.out 0).trans rfl; have hfs49 := blk_frozen BK463.out 0; have hs50 : w48.cell? ⟨gb463, 1, none⟩ = some (.string (⟨#[]⟩ : ByteArray)) := (blk_cell BK463.out 1).trans rfl; have hfs50 := blk_frozen BK463.out 1; refine skip_ (w1 := ?_) (by rfl) rfl ?_ ?_; rotate_left
       ·go_simp; rfl
       refine hK.out _ _ trivial (fun hHeld => ?_); clear hK K; refine pure_ (i := 8) (N := some 3) (v := ?_) (a' := ?_) (bitsL 10 511) rfl rfl (any_of HT_.out (by kernel_rfl)) (fun _ _ _ h => h) (Or.inl ⟨by rfl, ?_⟩) ?_ ?_; rotate_left
       ·intro w'; go_simp; with_reducible rfl
       rotate_left
       ·simp only [Act.put, sa_, sz_, ss_, i64_w, i32_w]; rfl
       refine pure_ (i := 9) (N := some 4) (v := ?_) (a' := ?_) (bitsL 10 1023) rfl rfl (any_of HT_.out (by kernel_rfl)) (fun _ _ _ h => h) (Or.inl ⟨by rfl, ?_⟩) ?_ ?_; rotate_left
       ·intro w'; go_simp; with_reducible rfl
       rotate_left
       ·simp only [Act.put, sa_, sz_, ss_, i64_w, i32_w]; rfl
       refine done_ (done_of HT_.out (by kernel_rfl)) ?_
       try go_wp2
       refine bodyPost_ret (results_ctt rfl _ _ gb463 194 #[.int .i64 1, .string (a0.extract 0 (x8_1 : Int).toNat)] (0, 0) _ rfl (by (with_reducible repeat (first | refine blk_drewN ?_ _ | refine blk_drew ?_ | refine blk_alloc ?_ _)); refine blk_put (cs := #[.int .i64 1, .string (⟨#[]⟩ : ByteArray)]) ?_ 1 _ rfl; (with_reducible repeat (first | refine blk_drewN ?_ _ | refine blk_drew ?_ | refine blk_alloc ?_ _)); exact blk_put (cs := #[.int .i64 0, .string (⟨#[]⟩ : ByteArray)]) bk 0 _ rfl) Tryz.underlying194 rfl (by kernel_rfl)) rfl ?_; exact ⟨ew, bwS⟩
      rw [if_neg c45] at H; exact absurd H (by simp)
     rw [if_neg c38] at H; exact absurd H (by simp)
    rw [if_neg c37] at H; have c37b0 := decide_eq_false c37; clear c37
    by_cases c51 : x8_1 = 0
    ·rw [if_pos c51] at H; have c51b0 := beq_iff_eq.mpr c51; have c51b1 := bne_eq_false_iff_eq.mpr c51; clear c51; simp only [Option.some.injEq, Prod.mk.injEq] at H; obtain ⟨rfl, rfl, rfl, rfl⟩ := H; obtain ⟨hcz52_0, hcz52_1, hfz52_0, hfz52_1⟩ := bk2 BK463.out
     go_wp2
     refine bodyPost_ret (results_ctt rfl _ _ gb463 194 #[.int .i64 0, .string (⟨#[]⟩ : ByteArray)] (0, 0) _ rfl (by (with_reducible repeat (first | refine blk_drewN ?_ _ | refine blk_drew ?_ | refine blk_alloc ?_ _)); refine blk_put (cs := #[.int .i64 0, .string (⟨#[]⟩ : ByteArray)]) ?_ 1 _ rfl; (with_reducible repeat (first | refine blk_drewN ?_ _ | refine blk_drew ?_ | refine blk_alloc ?_ _)); exact blk_put (cs := #[.int .i64 0, .string (⟨#[]⟩ : ByteArray)]) bk 0 _ rfl) Tryz.underlying194 rfl (by kernel_rfl)) rfl ?_; exact ⟨ew, bwS⟩
    rw [if_neg c51] at H; have c51b0 := beq_eq_false_iff_ne.mpr c51; have c51b1 := bne_iff_ne.mpr c51
    by_cases c53 : 0 ≤ x8_1
    ·rw [if_pos c53] at H; have c53b0 := eq_true c53; have c53b1 := decide_eq_true c53; clear c53
     by_cases c54 : x8_1 ≤ (a0.size : Int)
     ·rw [if_pos c54] at H; have c54b0 := eq_true c54; have c54b1 := decide_eq_true c54; clear c54; have c55b0 := eq_true (od : 0 ≤ x8_1); have c56b0 := eq_true (od : x8_1 ≤ (a0.size : Int)); simp only [Option.some.injEq, Prod.mk.injEq] at H; obtain ⟨rfl, rfl, rfl, rfl⟩ := H
      try go_wp2
      have n0_ := Aside0.mk (blk_drew BK463.out); have n1_ := Aside0.mk (below_drew1 HB.out); clear BK463 HB; have BK463 := n0_; have HB := n1_; clear n0_ n1_; refine start_ (n := 10) (S := fun w' => True) (ds := []) #[false, false, false, false, false, false, false, false, false, false] (by kernel_rfl) rfl rfl trivial (fun hHeld => ?_); refine with_tabW lex_next.tab18 lex_next.bits18 (fun HT_ HW_ => ?_)
      generalize wr.drew = w57 at BK463 HB hHeld ⊢
      refine pure_ (i := 0) (N := some 65) (v := ?_) (a' := ?_) (bitsL 10 1) rfl rfl (any_of HT_.out (by kernel_rfl)) (fun _ _ _ h => h) (Or.inl ⟨by rfl, ?_⟩) ?_ ?_; rotate_left
      ·intro w'; go_simp; with_reducible rfl
      rotate_left
      ·simp only [Act.put, sa_, sz_, ss_, i64_w, i32_w]; rfl
      refine pure_ (i := 1) (N := some 66) (v := ?_) (a' := ?_) (bitsL 10 3) rfl rfl (any_of HT_.out (by kernel_rfl)) (fun _ _ _ h => h) (Or.inl ⟨by rfl, ?_⟩) ?_ ?_; rotate_left
      ·intro w'; go_simp; with_reducible rfl
      rotate_left
      ·simp only [Act.put, sa_, sz_, ss_, i64_w, i32_w]; rfl
      refine pure_ (i := 2) (N := some 67) (v := ?_) (a' := ?_) (bitsL 10 7) rfl rfl (any_of HT_.out (by kernel_rfl)) (fun _ _ _ h => h) (Or.inl ⟨by rfl, ?_⟩) ?_ ?_; rotate_left
      ·intro w'; go_simp; with_reducible rfl
      rotate_left
      ·simp only [Act.put, sa_, sz_, ss_, i64_w, i32_w]; rfl
      refine pure_ (i := 3) (N := some 68) (v := ?_) (a' := ?_) (bitsL 10 15) rfl rfl (any_of HT_.out (by kernel_rfl)) (fun _ _ _ h => h) (Or.inl ⟨by rfl, ?_⟩) ?_ ?_; rotate_left
      ·intro w'; go_simp; with_reducible rfl
      rotate_left
      ·simp only [Act.put, sa_, sz_, ss_, i64_w, i32_w]; rfl
      refine pure_ (i := 4) (N := some 69) (v := ?_) (a' := ?_) (bitsL 10 31) rfl rfl (any_of HT_.out (by kernel_rfl)) (fun _ _ _ h => h) (Or.inl ⟨by rfl, ?_⟩) ?_ ?_; rotate_left
      ·intro w'; go_simp; with_reducible rfl
      rotate_left
      ·simp only [Act.put, sa_, sz_, ss_, i64_w, i32_w]; rfl
      refine pure_ (i := 5) (N := some 70) (v := ?_) (a' := ?_) (bitsL 10 63) rfl rfl (any_of HT_.out (by kernel_rfl)) (fun _ _ _ h => h) (Or.inl ⟨by rfl, ?_⟩) ?_ ?_; rotate_left
      ·intro w'; go_simp; with_reducible rfl
      rotate_left
      ·simp only [Act.put, sa_, sz_, ss_, i64_w, i32_w]; rfl
      refine pure_ (i := 6) (N := some 71) (v := ?_) (a' := ?_) (bitsL 10 127) rfl rfl (any_of HT_.out (by kernel_rfl)) (fun _ _ _ h => h) (Or.inl ⟨by rfl, ?_⟩) ?_ ?_; rotate_left
      ·intro w'; go_simp; with_reducible rfl
      rotate_left
      ·simp only [Act.put, sa_, sz_, ss_, i64_w, i32_w]; rfl
      refine one_ (i := 7) (N := none) (bitsL 10 255) rfl rfl (one_of HT_.out (by kernel_rfl)) (by decide) (fun K hK => ?_); have hs58 : w57.cell? ⟨gb463, 0, none⟩ = some (.int .i64 0) := (blk_cell BK463.out 0).trans rfl; have hfs58 := blk_frozen BK463.out 0; have hs59 : w57.cell? ⟨gb463, 1, none⟩ = some (.string (⟨#[]⟩ : ByteArray)) := (blk_cell BK463.out 1).trans rfl; have hfs59 := blk_frozen BK463.out 1; refine skip_ (w1 := ?_) (by rfl) rfl ?_ ?_; rotate_left
      ·go_simp; rfl
      refine hK.out _ _ trivial (fun hHeld => ?_); clear hK K; refine pure_ (i := 8) (N := some 3) (v := ?_) (a' := ?_) (bitsL 10 511) rfl rfl (any_of HT_.out (by kernel_rfl)) (fun _ _ _ h => h) (Or.inl ⟨by rfl, ?_⟩) ?_ ?_; rotate_left
      ·intro w'; go_simp; with_reducible rfl
      rotate_left
      ·simp only [Act.put, sa_, sz_, ss_, i64_w, i32_w]; rfl
      refine pure_ (i := 9) (N := some 4) (v := ?_) (a' := ?_) (bitsL 10 1023) rfl rfl (any_of HT_.out (by kernel_rfl)) (fun _ _ _ h => h) (Or.inl ⟨by rfl, ?_⟩) ?_ ?_; rotate_left
      ·intro w'; go_simp; with_reducible rfl
      rotate_left
      ·simp only [Act.put, sa_, sz_, ss_, i64_w, i32_w]; rfl
      refine done_ (done_of HT_.out (by kernel_rfl)) ?_
      try go_wp2
      refine bodyPost_ret (results_ctt rfl _ _ gb463 194 #[.int .i64 1, .string (a0.extract 0 (x8_1 : Int).toNat)] (0, 0) _ rfl (by (with_reducible repeat (first | refine blk_drewN ?_ _ | refine blk_drew ?_ | refine blk_alloc ?_ _)); refine blk_put (cs := #[.int .i64 1, .string (⟨#[]⟩ : ByteArray)]) ?_ 1 _ rfl; (with_reducible repeat (first | refine blk_drewN ?_ _ | refine blk_drew ?_ | refine blk_alloc ?_ _)); exact blk_put (cs := #[.int .i64 0, .string (⟨#[]⟩ : ByteArray)]) bk 0 _ rfl) Tryz.underlying194 rfl (by kernel_rfl)) rfl ?_; exact ⟨ew, bwS⟩
     rw [if_neg c54] at H; exact absurd H (by simp)
    rw [if_neg c53] at H; exact absurd H (by simp)
 rw [if_neg c2] at H; exact absurd H (by simp)
def lex_Scan.l0 : Nat → ByteArray → List (S194) → Option ((List (S194)) × Int)
 | 0, _, _ => none
 | k + 1, x0, x4 => if x0.toList = ([] : List UInt8) then (some (x4, 0)) else ((lex_next.f k x0).bind fun bt474 => (if bt474.2.2.2 = 0 then (if bt474.1 = 0 then (lex_Scan.l0 k bt474.2.2.1 x4) else (if x4.length < 5864062014805 then (lex_Scan.l0 k bt474.2.2.1 (x4 ++ [(⟨bt474.1, bt474.2.1⟩ : S194)])) else (none))) else (some (([] : List (S194)), bt474.2.2.2))))
def lex_Scan.f (k : Nat) (a0 : ByteArray) : Option ((List (S194)) × Int) := lex_Scan.l0 k a0 ([] : List (S194))
set_option maxRecDepth 100000 in
theorem lex_Scan.calls (k : Nat) (a0 : ByteArray) (r1 : List (S194)) (r2 : Int) (w : World) (h : lex_Scan.f k a0 = some (r1, r2)) :
  Calls Tryz.prog 154 #[.string a0] w fun e w' => ∃ v0_ : Value, e = .returned (.tuple #[v0_, .int .i64 r2]) ∧ Kd.R k194 194 w' w.heap.size (fun _ => True) v0_ r1 ∧ Below w.heap.size w w' := by
 have hu194 := Tryz.underlying194; have HB := Aside0.mk (Below.refl w.heap.size w); have H : (lex_Scan.l0 k a0 ([] : List (S194))) = some (r1, r2) := h; clear h; have H' := Aside0.mk H; clear H
 go_enter Tryz.func154, Tryz.ntmps154
 go_wp2
 go_loopg [0, 4] k (fun kq v0 v4 w' => ∃ (x0_1 : ByteArray) (x4_1 : List (S194)), v0 = .string x0_1 ∧ Aside0 (lex_Scan.l0 kq x0_1 x4_1 = some (r1, r2)) ∧ Aside0 (kq ≤ k) ∧ Aside0 (Kd.R k194 194 w' w.heap.size (fun _ => True) v4 x4_1) ∧ Aside0 (Below w.heap.size w w'))
 case atStart => exact ⟨(a0), (([] : List (S194))), cl, H', ⟨Nat.le_refl _⟩, ⟨by first | exact Kd.R_nil _ _ _ _ _ | exact Kd.N_nil _ _ _ _ _ | exact Kd.V_nil _ _ _ _ _ | exact Kd.Q_nil _ _ _ _ _ | exact Kd.S_nil _ _ _ _ _⟩, ⟨bw⟩⟩
 case round =>
  clear H'
  try clear c1
  obtain ⟨x0_1, x4_1, rfl, HA, HK1, HO_4, HB⟩ := hrel; cases gk with
  | zero => exact absurd HA.out (by simp [lex_Scan.l0])
  | succ k1 =>
   have H := HA.out; clear HA; simp only [lex_Scan.l0] at H
   by_cases c2 : x0_1.toList = ([] : List UInt8)
   ·rw [if_pos c2] at H; have c2b0 := beq_iff_eq.mpr c2; have c2b1 := bne_eq_false_iff_eq.mpr c2; clear c2; simp only [Option.some.injEq, Prod.mk.injEq] at H; obtain ⟨rfl, rfl⟩ := H
    go_wp2
    go_ret2
    exact ⟨_, ew, ra HO_4.out, bw⟩
   rw [if_neg c2] at H; have c2b0 := beq_eq_false_iff_ne.mpr c2; have c2b1 := bne_iff_ne.mpr c2; replace H := Option.bind_eq_some_iff.mp H; obtain ⟨⟨t474, t475, t476, t477⟩, A30, H⟩ := H; replace H : (if t477 = 0 then (if t474 = 0 then (lex_Scan.l0 k1 t476 x4_1) else (if x4_1.length < 5864062014805 then (lex_Scan.l0 k1 t476 (x4_1 ++ [(⟨t474, t475⟩ : S194)])) else (none))) else (some (([] : List (S194)), t477))) = some (r1, r2) := H; have A3 := Aside0.mk A30; clear A30
   by_cases c4 : t477 = 0
   ·rw [if_pos c4] at H; have c4b0 := beq_iff_eq.mpr c4; have c4b1 := bne_eq_false_iff_eq.mpr c4; clear c4
    by_cases c5 : t474 = 0
    ·rw [if_pos c5] at H; have c5b0 := beq_iff_eq.mpr c5; have c5b1 := bne_eq_false_iff_eq.mpr c5; clear c5; have H' := Aside0.mk H; clear H
     go_wp2_with (first | ((with_reducible refine gate_callee (f := 181) rfl ?_); refine goesL_ (some 12) rfl rfl Tryz.func181 (by kernel_rfl) rfl #[.string x0_1] rfl am ?_; (with_reducible refine (lex_next.calls k1 x0_1 t474 t475 t476 t477 _ A3.out).mono ?_); rintro e w6 ⟨rfl, hb⟩; refine ⟨_, rfl, ?_⟩; have n0_ := Aside0.mk (Kd.R_below (ra HO_4.out) hb); have n1_ := Aside0.mk (below_step bw hb); clear HO_4; clear HB; have HO_4 := n0_; have HB := n1_; clear n0_ n1_; (try clear hb); (try clear hb2); (try clear hk); (try clear hi)) | ((with_reducible refine gate_dst (N := 5) rfl ?_); refine box_event ?hg (N := 5) ?hd (cs := #[.int .i64 0, .string (⟨#[]⟩ : ByteArray)]) (t := 194) ?hr ?_; (case hd => rfl); (case hg => rfl); (case hr => first | (go_simp; done) | (go_simp; rfl)); intro gb478 hg w7 hbox hb; have n0_ := Aside0.mk (Kd.R_below (Kd.R_elderB (ra HO_4.out) gb478 (Nat.le_of_eq hg.symm)) hb); have n1_ := Aside0.mk (below_step bw hb); have n2_ := Aside0.mk (hbox); have n3_ := Aside0.mk ((by rw [hg]; exact (below_size bw) : w.heap.size ≤ gb478)); have n4_ := Aside0.mk ((by rw [hg]; exact (below_size bw) : w.heap.size ≤ gb478)); clear HO_4; clear HB; have HO_4 := n0_; have HB := n1_; have BK478 := n2_; have GW478 := n3_; have GE478 := n4_; clear n0_ n1_ n2_ n3_ n4_; clear hb hbox hg; obtain ⟨hcz8_0, hcz8_1⟩ := ce2 BK478; obtain ⟨hfz8_0, hfz8_1⟩ := fz2 BK478))
     go_roundg k1
     case measure => have := HK1.out; omega
     case rel => exact ⟨(t476), (x4_1), cl, H', ⟨by have := HK1.out; omega⟩, ⟨ra (Kd.R_mono (Kd.R_far (p := ⟨gb478, 1, none⟩) (Kd.R_far (p := ⟨gb478, 0, none⟩) (Kd.R_mono HO_4.out (fun k_ hk => (⟨hk, hk.2⟩ : _ ∧ k_ ≠ gb478))) (fun _ hk => hk.2) (.int .i64 t474)) (fun _ hk => hk.2) (.string t475)) (fun _ hk => trivial))⟩, ⟨bwS⟩⟩
    rw [if_neg c5] at H; have c5b0 := beq_eq_false_iff_ne.mpr c5; have c5b1 := bne_iff_ne.mpr c5
    by_cases c9 : x4_1.length < 5864062014805
    ·rw [if_pos c9] at H; have LMc9 := Aside0.mk c9; clear c9; obtain ⟨y479, hy479⟩ : ∃ y_ : List (S194), y_ = (x4_1 ++ [(⟨t474, t475⟩ : S194)]) := ⟨_, rfl⟩
     replace H : (lex_Scan.l0 k1 t476 y479) = some (r1, r2) := by first | (rw [hy479]; with_reducible exact H) | (have H2_ := (Option.bind_some _ _).symm.trans H; rw [hy479]; with_reducible exact H2_) | (have H2_ := (Option.bind_some _ _).symm.trans H; with_reducible exact H2_) | with_reducible exact H | (rw [hy479]; exact H) | exact H
     have Ny479 := Aside0.mk hy479; clear hy479; have H' := Aside0.mk H; clear H
     go_wp2_with (first | ((with_reducible refine gate_callee (f := 181) rfl ?_); refine goesL_ (some 12) rfl rfl Tryz.func181 (by kernel_rfl) rfl #[.string x0_1] rfl am ?_; (with_reducible refine (lex_next.calls k1 x0_1 t474 t475 t476 t477 _ A3.out).mono ?_); rintro e w10 ⟨rfl, hb⟩; refine ⟨_, rfl, ?_⟩; have n0_ := Aside0.mk (Kd.R_below (ra HO_4.out) hb); have n1_ := Aside0.mk (below_step bw hb); clear HO_4; clear HB; have HO_4 := n0_; have HB := n1_; clear n0_ n1_; (try clear hb); (try clear hb2); (try clear hk); (try clear hi)) | ((with_reducible refine gate_dst (N := 5) rfl ?_); refine box_event ?hg (N := 5) ?hd (cs := #[.int .i64 0, .string (⟨#[]⟩ : ByteArray)]) (t := 194) ?hr ?_; (case hd => rfl); (case hg => rfl); (case hr => first | (go_simp; done) | (go_simp; rfl)); intro gb478 hg w11 hbox hb; have n0_ := Aside0.mk (Kd.R_below (Kd.R_elderB (ra HO_4.out) gb478 (Nat.le_of_eq hg.symm)) hb); have n1_ := Aside0.mk (below_step bw hb); have n2_ := Aside0.mk (hbox); have n3_ := Aside0.mk ((by rw [hg]; exact (below_size bw) : w.heap.size ≤ gb478)); have n4_ := Aside0.mk ((by rw [hg]; exact (below_size bw) : w.heap.size ≤ gb478)); clear HO_4; clear HB; have HO_4 := n0_; have HB := n1_; have BK478 := n2_; have GW478 := n3_; have GE478 := n4_; clear n0_ n1_ n2_ n3_ n4_; clear hb hbox hg; obtain ⟨hcz12_0, hcz12_1⟩ := ce2 BK478; obtain ⟨hfz12_0, hfz12_1⟩ := fz2 BK478) | ((with_reducible refine gate_builtin (b := .append) (xs := #[.tmp 22, .tmp 24]) rfl ?_); at_builtin; refine Kd.R_append k194 (w0 := w) w.heap.size rfl (.tmp 22) (.tmp 24) 173 194 (.agg #[(.int .i64 0), (.string ⟨#[]⟩)]) 24 rfl Tryz.underlying173 info194 rfl (by decide) (by omega) u4 x4_1 (⟨t474, t475⟩ : S194) [.int .i64 t474, .string t475] (fun k_ => k_ ≠ gb478) (fun _ => False) rfl (by first | (go_simp; done) | (go_simp; rfl)) ?aP (fun _ hk => hk.elim) ?aF ?aO ?aB ?aS ?aL ?_; (case aP => exact k194_mkM _ _ _ (⟨t474, t475⟩ : S194)); (case aB => exact bwS); (case aF => exact (fun k_ hk => Kd.freshB (g := gb478) (o := .cells #[.int .i64 t474, .string t475] 194 (0, 0)) (by (with_reducible repeat (first | refine blk_drewN ?_ _ | refine blk_drew ?_ | refine blk_alloc ?_ _)); refine blk_put (cs := #[.int .i64 t474, .string (⟨#[]⟩ : ByteArray)]) ?_ 1 _ rfl; (with_reducible repeat (first | refine blk_drewN ?_ _ | refine blk_drew ?_ | refine blk_alloc ?_ _)); exact blk_put (cs := #[.int .i64 0, .string (⟨#[]⟩ : ByteArray)]) bk 0 _ rfl) k_ hk)); (case aO => exact (ra (Kd.R_mono (Kd.R_far (p := ⟨gb478, 1, none⟩) (Kd.R_far (p := ⟨gb478, 0, none⟩) (Kd.R_mono HO_4.out (fun k_ hk => (⟨hk, hk.2⟩ : _ ∧ k_ ≠ gb478))) (fun _ hk => hk.2) (.int .i64 t474)) (fun _ hk => hk.2) (.string t475)) (fun _ hk => hk.1.2)))); (case aS => exact (below_size bwS)); (case aL => have := LMc9.out; omega); intro v480 w13 ho hb hg hat; rw [← Ny479.out] at ho; have n0_ := Aside0.mk (blk_grown (g := gb478) (o := .cells #[.int .i64 t474, .string t475] 194 (0, 0)) (by (with_reducible repeat (first | refine blk_drewN ?_ _ | refine blk_drew ?_ | refine blk_alloc ?_ _)); refine blk_put (cs := #[.int .i64 t474, .string (⟨#[]⟩ : ByteArray)]) ?_ 1 _ rfl; (with_reducible repeat (first | refine blk_drewN ?_ _ | refine blk_drew ?_ | refine blk_alloc ?_ _)); exact blk_put (cs := #[.int .i64 0, .string (⟨#[]⟩ : ByteArray)]) bk 0 _ rfl) hg (Kd.R_away HO_4.out (fun _ hk => hk.2))); have n1_ := Aside0.mk (hb); have n2_ := Aside0.mk (ho); clear BK478; clear HB; clear HO_4; have BK478 := n0_; have HB := n1_; have HO481 := n2_; clear n0_ n1_ n2_; clear ho hb hg hat))
     go_roundg k1
     case measure => have := HK1.out; omega
     case rel => exact ⟨(t476), (y479), cl, H', ⟨by have := HK1.out; omega⟩, ⟨ra (Kd.R_mono HO481.out (fun _ hk => trivial))⟩, ⟨bwS⟩⟩
    rw [if_neg c9] at H; exact absurd H (by simp)
   rw [if_neg c4] at H; have c4b0 := beq_eq_false_iff_ne.mpr c4; have c4b1 := bne_iff_ne.mpr c4; simp only [Option.some.injEq, Prod.mk.injEq] at H; obtain ⟨rfl, rfl⟩ := H
   go_wp2_with (first | ((with_reducible refine gate_callee (f := 181) rfl ?_); refine goesL_ (some 12) rfl rfl Tryz.func181 (by kernel_rfl) rfl #[.string x0_1] rfl am ?_; (with_reducible refine (lex_next.calls k1 x0_1 t474 t475 t476 t477 _ A3.out).mono ?_); rintro e w14 ⟨rfl, hb⟩; refine ⟨_, rfl, ?_⟩; have n0_ := Aside0.mk (Kd.R_below (ra HO_4.out) hb); have n1_ := Aside0.mk (below_step bw hb); clear HO_4; clear HB; have HO_4 := n0_; have HB := n1_; clear n0_ n1_; (try clear hb); (try clear hb2); (try clear hk); (try clear hi)) | ((with_reducible refine gate_dst (N := 5) rfl ?_); refine box_event ?hg (N := 5) ?hd (cs := #[.int .i64 0, .string (⟨#[]⟩ : ByteArray)]) (t := 194) ?hr ?_; (case hd => rfl); (case hg => rfl); (case hr => first | (go_simp; done) | (go_simp; rfl)); intro gb478 hg w15 hbox hb; have n0_ := Aside0.mk (Kd.R_below (Kd.R_elderB (ra HO_4.out) gb478 (Nat.le_of_eq hg.symm)) hb); have n1_ := Aside0.mk (below_step bw hb); have n2_ := Aside0.mk (hbox); have n3_ := Aside0.mk ((by rw [hg]; exact (below_size bw) : w.heap.size ≤ gb478)); have n4_ := Aside0.mk ((by rw [hg]; exact (below_size bw) : w.heap.size ≤ gb478)); clear HO_4; clear HB; have HO_4 := n0_; have HB := n1_; have BK478 := n2_; have GW478 := n3_; have GE478 := n4_; clear n0_ n1_ n2_ n3_ n4_; clear hb hbox hg; obtain ⟨hcz16_0, hcz16_1⟩ := ce2 BK478; obtain ⟨hfz16_0, hfz16_1⟩ := fz2 BK478))
   go_ret2
   exact ⟨_, ew, by first | exact Kd.R_nil _ _ _ _ _ | exact Kd.N_nil _ _ _ _ _ | exact Kd.V_nil _ _ _ _ _ | exact Kd.Q_nil _ _ _ _ _ | exact Kd.S_nil _ _ _ _ _, bwS⟩
end Go.Proofs.YtcndmhpeolbepaaGreatDoor.Fn
