/- A part of the proof of this sentence: MbxReads (14.6): the boxes of any bytes, and the one box, or why there are none, are as the document has them; of at most 2000 bytes. -/
import Derived.Test.YtihabmcaplnbcaaDoorCMbxReads2
namespace Go.Proofs.YtihabmcaplnbcaaDoor.Fn
open Go.RowKit Go.Proofs.YtihabmcaplnbcaaDoorW.PrintWords Go.Proofs.YtihabmcaplnbcaaDoorW.PrintLast Go.Proofs.YtihabmcaplnbcaaDoorW.PrintMore
attribute [local go_sem] max2_int min2_int max_two min_two max_three min_three max_four min_four
set_option linter.unusedVariables false
set_option linter.unusedSimpArgs false
def lex_quoted.l0 : Nat → ByteArray → List Int → Int → Option (Int × ByteArray × ByteArray × Int)
 | 0, _, _, _ => none
 | k + 1, x0, x5, x6 => if x6 < (x0.size : Int) then (if 0 ≤ x6 then (if x6 ≤ (x0.size : Int) then ((lex_fold.f (x0.extract (x6 : Int).toNat x0.size)).bind fun t138 => (if t138 = true then (lex_quoted.l0 k x0 x5 (wrap64 ((wrap64 (x6 + 1)) + 1))) else (if (bt x0 x6) = 92 then (if 0 ≤ (wrap64 (x6 + 1)) then (if (wrap64 (x6 + 1)) ≤ (x0.size : Int) then ((lex_escaped.f (x0.extract ((wrap64 (x6 + 1)) : Int).toNat x0.size)).bind fun t139 => (if t139 = 0 then (if (wrap64 (x6 + 1)) < (x0.size : Int) then (if x5.length < 140737488355328 then (lex_quoted.l0 k x0 (x5 ++ [bt x0 (wrap64 (x6 + 1))]) (wrap64 ((wrap64 (x6 + 1)) + 1))) else (none)) else (none)) else (some (0, (⟨#[]⟩ : ByteArray), (⟨#[]⟩ : ByteArray), t139)))) else (none)) else (none)) else (if (bt x0 x6) = 34 then (if 0 ≤ (wrap64 (x6 + 1)) then (if (wrap64 (x6 + 1)) ≤ (x0.size : Int) then (some (2, strOfNums x5, x0.extract ((wrap64 (x6 + 1)) : Int).toNat x0.size, 0)) else (none)) else (none)) else ((lex_text.f (bt x0 x6)).bind fun t143 => (if t143 = true then (if x5.length < 140737488355328 then (lex_quoted.l0 k x0 (x5 ++ [bt x0 x6]) (wrap64 (x6 + 1))) else (none)) else (some (0, (⟨#[]⟩ : ByteArray), (⟨#[]⟩ : ByteArray), 3)))))))) else (none)) else (none)) else (some (0, (⟨#[]⟩ : ByteArray), (⟨#[]⟩ : ByteArray), 9))
def lex_quoted.f (k : Nat) (a0 : ByteArray) : Option (Int × ByteArray × ByteArray × Int) := lex_quoted.l0 k a0 ([] : List Int) 1
def lex_quoted.T16 : Bool × List (List Nat × List Nat) := (true, [([], []), ([0], [0]), ([1], [1]), ([], []), ([], []), ([4], [4]), ([3, 5], [3, 5]), ([2, 0, 1, 2], [2]), ([6, 7, 0, 1, 2, 3, 4, 5, 6, 7], [6]), ([8, 0, 1, 2, 3, 4, 5, 6, 7, 8], [])])
def lex_quoted.B16 : List Nat := [0, 1, 3, 0, 0, 16, 56, 7, 255, 511]
theorem lex_quoted.tab16 : rtab .any (opsOf Tryd.f114 16) = lex_quoted.T16 := by kernel_rfl
theorem lex_quoted.bits16 : waitsOk lex_quoted.T16.2 lex_quoted.B16 = true := by kernel_rfl
set_option maxHeartbeats 8000000 in
set_option maxRecDepth 100000 in
theorem lex_quoted.calls (k : Nat) (a0 : ByteArray) (r1 : Int) (r2 : ByteArray) (r3 : ByteArray) (r4 : Int) (w : World) (h : lex_quoted.f k a0 = some (r1, r2, r3, r4)) :
  Calls Tryd.prog 114 #[.string a0] w fun e w' => e = .returned (.tuple #[.agg #[.int .i64 r1, .string r2], .string r3, .int .i64 r4]) ∧ Below w.heap.size w w' := by
 have hu107 := Tryd.underlying107; have HB := Aside0.mk (Below.refl w.heap.size w); have H : (lex_quoted.l0 k a0 ([] : List Int) 1) = some (r1, r2, r3, r4) := h; clear h; have H' := Aside0.mk H; clear H
 go_enter Tryd.func114, Tryd.ntmps114
 go_wp2_with (first | ((with_reducible refine gate_dst (N := 2) rfl ?_); refine box_event ?hg (N := 2) ?hd (cs := #[.int .i64 0, .string (⟨#[]⟩ : ByteArray)]) (t := 107) ?hr ?_; (case hd => rfl); (case hg => rfl); (case hr => first | (go_simp; done) | (go_simp; rfl)); intro gb137 hg w2 hbox hb; have n0_ := Aside0.mk (below_step bw hb); have n1_ := Aside0.mk (hbox); have n2_ := Aside0.mk ((by rw [hg]; exact (below_size bw) : w.heap.size ≤ gb137)); have n3_ := Aside0.mk ((by rw [hg]; exact (below_size bw) : w.heap.size ≤ gb137)); clear HB; have HB := n0_; have BK137 := n1_; have GW137 := n2_; have GE137 := n3_; clear n0_ n1_ n2_ n3_; clear hb hbox hg))
 go_loopg [5, 6] k (fun kq v5 v6 w' => ∃ (x5_1 : List Int) (x6_1 : Int) (x138000_1 : Int) (x138001_1 : ByteArray), v6 = .int .i64 x6_1 ∧ Aside0 (lex_quoted.l0 kq a0 x5_1 x6_1 = some (r1, r2, r3, r4)) ∧ Aside0 (kq ≤ k) ∧ Aside0 (Kd.R (Kd.int .u8) 5 w' w.heap.size (fun _ => True) v5 x5_1) ∧ Aside0 (w'.heap[gb137]? = some (.cells #[.int .i64 x138000_1, .string x138001_1] 107 (0, 0))) ∧ Aside0 (Below w.heap.size w w'))
 case atStart => exact ⟨(([] : List Int)), (1), (0), ((⟨#[]⟩ : ByteArray)), cl, H', ⟨Nat.le_refl _⟩, ⟨by first | exact Kd.R_nil _ _ _ _ _ | exact Kd.N_nil _ _ _ _ _ | exact Kd.V_nil _ _ _ _ _ | exact Kd.Q_nil _ _ _ _ _ | exact Kd.S_nil _ _ _ _ _⟩, ⟨bk⟩, ⟨bwS⟩⟩
 case round =>
  clear H'
  try clear c1
  try clear p2
  obtain ⟨x5_1, x6_1, x138000_1, x138001_1, rfl, HA, HK1, HO_5, BK137, HB⟩ := hrel; cases gk with
  | zero => exact absurd HA.out (by simp [lex_quoted.l0])
  | succ k1 =>
   have H := HA.out; clear HA; simp only [lex_quoted.l0] at H
   by_cases c3 : x6_1 < (a0.size : Int)
   ·rw [if_pos c3] at H; have c3b0 := decide_eq_true c3; clear c3
    by_cases c4 : 0 ≤ x6_1
    ·rw [if_pos c4] at H; have c4b0 := decide_eq_true c4; clear c4; have c6b0 := eq_true (od : 0 ≤ x6_1)
     by_cases c7 : x6_1 ≤ (a0.size : Int)
     ·rw [if_pos c7] at H; have c7b0 := eq_true c7; have c7b1 := decide_eq_true c7; clear c7; replace H := Option.bind_eq_some_iff.mp H; obtain ⟨t138, A80, H⟩ := H; have A8 := Aside0.mk A80; clear A80
      by_cases c9 : t138 = true
      ·subst c9; rw [if_pos rfl] at H; have H' := Aside0.mk H; clear H; have p5 : 0 ≤ (x6_1 : Int) := od; have q5 : x6_1 < (a0.size : Int) := od; have hx5 := bt_at a0 x6_1; replace p5 := eq_true p5; replace q5 := eq_true q5
       go_wp2_with (first | ((with_reducible refine gate_callee (f := 112) rfl ?_); refine goesL_ (some 26) rfl rfl Tryd.func112 (by kernel_rfl) rfl #[.string (a0.extract (x6_1 : Int).toNat a0.size)] rfl am ?_; (with_reducible refine (lex_fold.calls (a0.extract (x6_1 : Int).toNat a0.size) true _ A8.out).mono ?_); rintro e w' ⟨rfl, ⟨nd, rfl⟩⟩; refine ⟨_, rfl, ?_⟩))
       go_roundg k1
       case measure => have := HK1.out; omega
       case rel => exact ⟨(x5_1), (wrap64 ((wrap64 (x6_1 + 1)) + 1)), (x138000_1), (x138001_1), cl, H', ⟨by have := HK1.out; omega⟩, ⟨ra HO_5.out⟩, ⟨bk⟩, ⟨bwS⟩⟩
      replace c9 := Bool.eq_false_iff.mpr c9; subst c9; rw [if_neg nft] at H
      by_cases c10 : (bt a0 x6_1) = 92
      ·rw [if_pos c10] at H; have c10b0 := beq_iff_eq.mpr c10; have c10b1 := bne_eq_false_iff_eq.mpr c10; clear c10; obtain ⟨ji11, hji11⟩ : ∃ j_ : Int, (wrap64 (x6_1 + 1)) = j_ := ⟨_, rfl⟩
       replace H : (if 0 ≤ (ji11) then (if (ji11) ≤ (a0.size : Int) then ((lex_escaped.f (a0.extract ((ji11) : Int).toNat a0.size)).bind fun t139 => (if t139 = 0 then (if (ji11) < (a0.size : Int) then (if x5_1.length < 140737488355328 then (lex_quoted.l0 k1 a0 (x5_1 ++ [bt a0 (ji11)]) (wrap64 ((ji11) + 1))) else (none)) else (none)) else (some (0, (⟨#[]⟩ : ByteArray), (⟨#[]⟩ : ByteArray), t139)))) else (none)) else (none)) = some (r1, r2, r3, r4) := by first | (rw [hji11] at H; exact H) | (simp only [hji11] at H ⊢; exact H)
       (try rw [hji11] at A8)
       have hji11w : (IntKind.i64.wrap (x6_1 + 1)) = ji11 := (i64_w _).trans hji11
       by_cases c12 : 0 ≤ (ji11)
       ·rw [if_pos c12] at H; have c12b0 := eq_true c12; have c12b1 := decide_eq_true c12; clear c12
        by_cases c13 : (ji11) ≤ (a0.size : Int)
        ·rw [if_pos c13] at H; have c13b0 := eq_true c13; have c13b1 := decide_eq_true c13; clear c13; replace H := Option.bind_eq_some_iff.mp H; obtain ⟨t139, A140, H⟩ := H; have A14 := Aside0.mk A140; clear A140
         by_cases c15 : t139 = 0
         ·rw [if_pos c15] at H; have c15b0 := beq_iff_eq.mpr c15; have c15b1 := bne_eq_false_iff_eq.mpr c15; clear c15
          by_cases c16 : (ji11) < (a0.size : Int)
          ·rw [if_pos c16] at H; have c16b0 := decide_eq_true c16; clear c16
           by_cases c18 : x5_1.length < 140737488355328
           ·rw [if_pos c18] at H; have LMc18 := Aside0.mk c18; clear c18; obtain ⟨y140, hy140⟩ : ∃ y_ : List Int, y_ = (x5_1 ++ [bt a0 (ji11)]) := ⟨_, rfl⟩
            replace H : (lex_quoted.l0 k1 a0 y140 (wrap64 ((ji11) + 1))) = some (r1, r2, r3, r4) := by first | (rw [hy140]; with_reducible exact H) | (have H2_ := (Option.bind_some _ _).symm.trans H; rw [hy140]; with_reducible exact H2_) | (have H2_ := (Option.bind_some _ _).symm.trans H; with_reducible exact H2_) | with_reducible exact H | (rw [hy140]; exact H) | exact H
            have Ny140 := Aside0.mk hy140; clear hy140; have H' := Aside0.mk H; clear H; have p5 : 0 ≤ (x6_1 : Int) := od; have q5 : x6_1 < (a0.size : Int) := od; have hx5 := bt_at a0 x6_1; replace p5 := eq_true p5; replace q5 := eq_true q5
            go_wp2_with (first | ((with_reducible refine gate_callee (f := 112) rfl ?_); refine goesL_ (some 26) rfl rfl Tryd.func112 (by kernel_rfl) rfl #[.string (a0.extract (x6_1 : Int).toNat a0.size)] rfl am ?_; (with_reducible refine (lex_fold.calls (a0.extract (x6_1 : Int).toNat a0.size) false _ A8.out).mono ?_); rintro e w' ⟨rfl, ⟨nd, rfl⟩⟩; refine ⟨_, rfl, ?_⟩) | ((with_reducible refine gate_callee (f := 140) rfl ?_); refine goesL_ (some 37) rfl rfl Tryd.func140 (by kernel_rfl) rfl #[.string (a0.extract ((ji11) : Int).toNat a0.size)] rfl (by (try simp only [List.map_toArray, List.map_cons, List.map_nil]); first | done | (simp only [hji11]; rfl) | rfl | (simp only [List.length_drop, List.length_take]; rfl)) ?_; (with_reducible refine (lex_escaped.calls (a0.extract ((ji11) : Int).toNat a0.size) t139 _ A14.out).mono ?_); rintro e w' ⟨rfl, ⟨nd, rfl⟩⟩; refine ⟨_, rfl, ?_⟩; have p17 : 0 ≤ ((ji11) : Int) := od; have q17 : (ji11) < (a0.size : Int) := od; have hx17 := bt_at a0 (ji11); replace p17 := eq_true p17; replace q17 := eq_true q17) | ((with_reducible refine gate_builtin (b := .append) (xs := #[.tmp 42, .tmp 46]) rfl ?_); at_builtin; refine Kd.R_append (Kd.int .u8) (w0 := w) w.heap.size rfl (.tmp 42) (.tmp 46) 83 5 (.int .u8 0) 1 rfl Tryd.underlying83 info5 rfl (by decide) (by omega) u5 x5_1 (bt a0 (ji11)) [.int .u8 (bt a0 (ji11))] (fun _ => True) (fun _ => False) rfl rfl ?aP (fun _ hk => hk.elim) ?aF ?aO ?aB ?aS ?aL ?_; (case aP => exact rfl); (case aB => exact bwS); (case aF => exact (fun _ _ => trivial)); (case aO => exact (ra HO_5.out)); (case aS => exact (below_size bwS)); (case aL => have := LMc18.out; omega); intro v141 w19 ho hb hg hat; rw [← Ny140.out] at ho; have n0_ := Aside0.mk (blk_grown (g := gb137) (o := .cells #[.int .i64 x138000_1, .string x138001_1] 107 (0, 0)) bk hg (Kd.R_ne HO_5.out BK137.out (by decide))); have n1_ := Aside0.mk (hb); have n2_ := Aside0.mk (ho); clear BK137; clear HB; clear HO_5; have BK137 := n0_; have HB := n1_; have HO142 := n2_; clear n0_ n1_ n2_; clear ho hb hg hat))
            go_roundg k1
            case measure => have := HK1.out; omega
            case rel => exact ⟨(y140), (wrap64 ((ji11) + 1)), (x138000_1), (x138001_1), (by first | rfl | (simp; done) | (simp only [← hji11] <;> (first | rfl | simp)) | (simp [*]; done) | (simp [nil_ne]; done) | (simp [u8_w, i64w_]; done) | (simp [size_lit]; done) | (simp; unfold wrap64; omega)), H', ⟨by have := HK1.out; omega⟩, ⟨ra HO142.out⟩, ⟨bk⟩, ⟨bwS⟩⟩
           rw [if_neg c18] at H; exact absurd H (by simp)
          rw [if_neg c16] at H; exact absurd H (by simp)
         rw [if_neg c15] at H; have c15b0 := beq_eq_false_iff_ne.mpr c15; have c15b1 := bne_iff_ne.mpr c15; simp only [Option.some.injEq, Prod.mk.injEq] at H; obtain ⟨rfl, rfl, rfl, rfl⟩ := H; have p5 : 0 ≤ (x6_1 : Int) := od; have q5 : x6_1 < (a0.size : Int) := od; have hx5 := bt_at a0 x6_1; replace p5 := eq_true p5; replace q5 := eq_true q5
         go_wp2_with (first | ((with_reducible refine gate_callee (f := 112) rfl ?_); refine goesL_ (some 26) rfl rfl Tryd.func112 (by kernel_rfl) rfl #[.string (a0.extract (x6_1 : Int).toNat a0.size)] rfl am ?_; (with_reducible refine (lex_fold.calls (a0.extract (x6_1 : Int).toNat a0.size) false _ A8.out).mono ?_); rintro e w' ⟨rfl, ⟨nd, rfl⟩⟩; refine ⟨_, rfl, ?_⟩; (try (rw [drewN_self wr]; generalize hq_ : World.drewN wr _ = wr; have n0_ : Aside0 (Kd.R (Kd.int .u8) 5 wr w.heap.size (fun _ => True) u5 x5_1) := ⟨by rw [← hq_]; exact (ra HO_5.out)⟩; have n1_ : Aside0 (wr.heap[gb137]? = some (.cells #[.int .i64 x138000_1, .string x138001_1] 107 (0, 0))) := ⟨by rw [← hq_]; exact bk⟩; have n2_ : Aside0 (Below w.heap.size w wr) := ⟨by rw [← hq_]; exact bwS⟩; clear HO_5 BK137 HB hq_; have HO_5 := n0_; have BK137 := n1_; have HB := n2_; clear n0_ n1_ n2_))) | ((with_reducible refine gate_callee (f := 140) rfl ?_); refine goesL_ (some 37) rfl rfl Tryd.func140 (by kernel_rfl) rfl #[.string (a0.extract ((ji11) : Int).toNat a0.size)] rfl (by (try simp only [List.map_toArray, List.map_cons, List.map_nil]); first | done | (simp only [hji11]; rfl) | rfl | (simp only [List.length_drop, List.length_take]; rfl)) ?_; (with_reducible refine (lex_escaped.calls (a0.extract ((ji11) : Int).toNat a0.size) t139 _ A14.out).mono ?_); rintro e w' ⟨rfl, ⟨nd, rfl⟩⟩; refine ⟨_, rfl, ?_⟩; (try (rw [drewN_self wr]; generalize hq_ : World.drewN wr _ = wr; have n0_ : Aside0 (Kd.R (Kd.int .u8) 5 wr w.heap.size (fun _ => True) u5 x5_1) := ⟨by rw [← hq_]; exact (ra HO_5.out)⟩; have n1_ : Aside0 (wr.heap[gb137]? = some (.cells #[.int .i64 x138000_1, .string x138001_1] 107 (0, 0))) := ⟨by rw [← hq_]; exact bk⟩; have n2_ : Aside0 (Below w.heap.size w wr) := ⟨by rw [← hq_]; exact bwS⟩; clear HO_5 BK137 HB hq_; have HO_5 := n0_; have BK137 := n1_; have HB := n2_; clear n0_ n1_ n2_)); have hcz20_0 : wr.cell? ⟨gb137, 0, none⟩ = some (.int .i64 x138000_1) := (blk_cell BK137.out 0).trans rfl; have hcz20_1 : wr.cell? ⟨gb137, 1, none⟩ = some (.string x138001_1) := (blk_cell BK137.out 1).trans rfl; have hfz20_0 := blk_frozen BK137.out 0; have hfz20_1 := blk_frozen BK137.out 1))
         refine bodyPost_ret (results_ctt rfl _ _ gb137 107 #[.int .i64 0, .string (⟨#[]⟩ : ByteArray)] (0, 0) _ rfl (by (with_reducible repeat (first | refine blk_drewN ?_ _ | refine blk_drew ?_ | refine blk_alloc ?_ _)); refine blk_put (cs := #[.int .i64 0, .string x138001_1]) ?_ 1 _ rfl; (with_reducible repeat (first | refine blk_drewN ?_ _ | refine blk_drew ?_ | refine blk_alloc ?_ _)); exact blk_put (cs := #[.int .i64 x138000_1, .string x138001_1]) bk 0 _ rfl) Tryd.underlying107 rfl (by kernel_rfl)) rfl ?_; exact ⟨by first | rfl | (simp [errW_none, errW_some] <;> rfl) | (simp only [← hji11]; first | rfl | (simp [errW_none, errW_some] <;> rfl)) | (simp [*, errW_none, errW_some] <;> rfl), bwS⟩
        rw [if_neg c13] at H; exact absurd H (by simp)
       rw [if_neg c12] at H; exact absurd H (by simp)
      rw [if_neg c10] at H; have c10b0 := beq_eq_false_iff_ne.mpr c10; have c10b1 := bne_iff_ne.mpr c10
      by_cases c21 : (bt a0 x6_1) = 34
      ·rw [if_pos c21] at H; have c21b0 := beq_iff_eq.mpr c21; have c21b1 := bne_eq_false_iff_eq.mpr c21; clear c21; obtain ⟨ji22, hji22⟩ : ∃ j_ : Int, (wrap64 (x6_1 + 1)) = j_ := ⟨_, rfl⟩
       replace H : (if 0 ≤ (ji22) then (if (ji22) ≤ (a0.size : Int) then (some (2, strOfNums x5_1, a0.extract ((ji22) : Int).toNat a0.size, 0)) else (none)) else (none)) = some (r1, r2, r3, r4) := by first | (rw [hji22] at H; exact H) | (simp only [hji22] at H ⊢; exact H)
       (try rw [hji22] at A8)
       have hji22w : (IntKind.i64.wrap (x6_1 + 1)) = ji22 := (i64_w _).trans hji22
       by_cases c23 : 0 ≤ (ji22)
       ·rw [if_pos c23] at H; have c23b0 := eq_true c23; have c23b1 := decide_eq_true c23; clear c23
        by_cases c24 : (ji22) ≤ (a0.size : Int)
        ·rw [if_pos c24] at H; have c24b0 := eq_true c24; have c24b1 := decide_eq_true c24; clear c24; simp only [Option.some.injEq, Prod.mk.injEq] at H; obtain ⟨rfl, rfl, rfl, rfl⟩ := H; have p5 : 0 ≤ (x6_1 : Int) := od; have q5 : x6_1 < (a0.size : Int) := od; have hx5 := bt_at a0 x6_1; replace p5 := eq_true p5; replace q5 := eq_true q5
         try go_wp2_with (first | ((with_reducible refine gate_callee (f := 112) rfl ?_); refine goesL_ (some 26) rfl rfl Tryd.func112 (by kernel_rfl) rfl #[.string (a0.extract (x6_1 : Int).toNat a0.size)] rfl am ?_; (with_reducible refine (lex_fold.calls (a0.extract (x6_1 : Int).toNat a0.size) false _ A8.out).mono ?_); rintro e w' ⟨rfl, ⟨nd, rfl⟩⟩; refine ⟨_, rfl, ?_⟩; (try (rw [drewN_self wr]; generalize hq_ : World.drewN wr _ = wr; have n0_ : Aside0 (Kd.R (Kd.int .u8) 5 wr w.heap.size (fun _ => True) u5 x5_1) := ⟨by rw [← hq_]; exact (ra HO_5.out)⟩; have n1_ : Aside0 (wr.heap[gb137]? = some (.cells #[.int .i64 x138000_1, .string x138001_1] 107 (0, 0))) := ⟨by rw [← hq_]; exact bk⟩; have n2_ : Aside0 (Below w.heap.size w wr) := ⟨by rw [← hq_]; exact bwS⟩; clear HO_5 BK137 HB hq_; have HO_5 := n0_; have BK137 := n1_; have HB := n2_; clear n0_ n1_ n2_))))
         have n0_ := Aside0.mk (Kd.R_drew HO_5.out); have n1_ := Aside0.mk (blk_drew BK137.out); have n2_ := Aside0.mk (below_drew1 HB.out); clear HO_5 BK137 HB; have HO_5 := n0_; have BK137 := n1_; have HB := n2_; clear n0_ n1_ n2_; have hcv26 := own_string (P := Tryd.prog) Tryd.underlying83 Tryd.underlying5 Tryd.underlying9 (Kd.own_of_R HO_5.out); refine start_conv (n := 10) (ds := [7]) #[false, false, false, false, false, false, false, false, false, false] (by kernel_rfl) rfl rfl hcv26 (fun hHeld => ?_); refine with_tabW lex_quoted.tab16 lex_quoted.bits16 (fun HT_ HW_ => ?_)
         generalize wr.drew = w25 at HO_5 BK137 HB hHeld ⊢
         refine pure_ (i := 0) (N := some 51) (v := ?_) (a' := ?_) (bitsL 10 1) rfl rfl (any_of HT_.out (by kernel_rfl)) (fun _ _ _ h => h) (Or.inl ⟨by rfl, ?_⟩) ?_ ?_; rotate_left
         ·intro w'; go_simp; with_reducible rfl
         rotate_left
         ·simp only [Act.put, List.setIfInBounds_toArray, List.set_cons_zero, List.set_cons_succ, i64_w, i32_w]; rfl
         refine take_ (i := 1) (N := some 52) (v := ?_) (a' := ?_) (bitsL 10 3) rfl rfl (take_ofW HT_.out HW_.out (by kernel_rfl)) (fun _ _ _ h => h) (Or.inl ⟨by rfl, ?_⟩) hHeld ?_ ?_; rotate_left
         ·intro w' s0; go_simp; with_reducible rfl
         rotate_left
         ·simp only [Act.put, List.setIfInBounds_toArray, List.set_cons_zero, List.set_cons_succ, i64_w, i32_w]; rfl
         refine pure_ (i := 2) (N := some 53) (v := ?_) (a' := ?_) (bitsL 10 7) rfl rfl (any_of HT_.out (by kernel_rfl)) (fun _ _ _ h => h) (Or.inl ⟨by rfl, ?_⟩) ?_ ?_; rotate_left
         ·intro w'; go_simp; with_reducible rfl
         rotate_left
         ·simp only [Act.put, List.setIfInBounds_toArray, List.set_cons_zero, List.set_cons_succ, i64_w, i32_w]; rfl
         refine pure_ (i := 3) (N := some 54) (v := ?_) (a' := ?_) (bitsL 10 15) rfl rfl (any_of HT_.out (by kernel_rfl)) (fun _ _ _ h => h) (Or.inl ⟨by rfl, ?_⟩) ?_ ?_; rotate_left
         ·intro w'; go_simp; with_reducible rfl
         rotate_left
         ·simp only [Act.put, List.setIfInBounds_toArray, List.set_cons_zero, List.set_cons_succ, i64_w, i32_w]; rfl
         refine pure_ (i := 4) (N := some 55) (v := ?_) (a' := ?_) (bitsL 10 31) rfl rfl (any_of HT_.out (by kernel_rfl)) (fun _ _ _ h => h) (Or.inl ⟨by rfl, ?_⟩) ?_ ?_; rotate_left
         ·intro w'; go_simp; with_reducible rfl
         rotate_left
         ·simp only [Act.put, List.setIfInBounds_toArray, List.set_cons_zero, List.set_cons_succ, i64_w, i32_w]; rfl
         refine pure_ (i := 5) (N := some 56) (v := ?_) (a' := ?_) (bitsL 10 63) rfl rfl (any_of HT_.out (by kernel_rfl)) (fun _ _ _ h => h) (Or.inl ⟨by rfl, ?_⟩) ?_ ?_; rotate_left
         ·intro w'; go_simp; with_reducible rfl
         rotate_left
         ·simp only [Act.put, List.setIfInBounds_toArray, List.set_cons_zero, List.set_cons_succ, i64_w, i32_w]; rfl
         refine pure_ (i := 6) (N := some 57) (v := ?_) (a' := ?_) (bitsL 10 127) rfl rfl (any_of HT_.out (by kernel_rfl)) (fun _ _ _ h => h) (Or.inl ⟨by rfl, ?_⟩) ?_ ?_; rotate_left
         ·intro w'; go_simp; with_reducible rfl
         rotate_left
         ·simp only [Act.put, List.setIfInBounds_toArray, List.set_cons_zero, List.set_cons_succ, i64_w, i32_w]; rfl
         refine last_ (i := 7) (N := none) (bitsL 10 255) rfl rfl (one_of HT_.out (by kernel_rfl)) (by decide) (fun K hK => ?_); have hs27 : w25.cell? ⟨gb137, 0, none⟩ = some (.int .i64 x138000_1) := (blk_cell BK137.out 0).trans rfl; have hfs27 := blk_frozen BK137.out 0; have hs28 : w25.cell? ⟨gb137, 1, none⟩ = some (.string x138001_1) := (blk_cell BK137.out 1).trans rfl; have hfs28 := blk_frozen BK137.out 1; refine skip_ (w1 := ?_) (by rfl) rfl ?_ ?_; rotate_left
         ·go_simp; rfl
         refine hK.out _ _ ?_; clear hK K; refine pure_ (i := 8) (N := some 3) (v := ?_) (a' := ?_) (bitsL 10 511) rfl rfl (any_of HT_.out (by kernel_rfl)) (fun _ _ _ h => h) (Or.inl ⟨by rfl, ?_⟩) ?_ ?_; rotate_left
         ·intro w'; go_simp; with_reducible rfl
         rotate_left
         ·simp only [Act.put, List.setIfInBounds_toArray, List.set_cons_zero, List.set_cons_succ, i64_w, i32_w]; rfl
         refine pure_ (i := 9) (N := some 4) (v := ?_) (a' := ?_) (bitsL 10 1023) rfl rfl (any_of HT_.out (by kernel_rfl)) (fun _ _ _ h => h) (Or.inl ⟨by rfl, ?_⟩) ?_ ?_; rotate_left
         ·intro w'; go_simp; with_reducible rfl
         rotate_left
         ·simp only [Act.put, List.setIfInBounds_toArray, List.set_cons_zero, List.set_cons_succ, i64_w, i32_w]; rfl
         refine done_ (done_of HT_.out (by kernel_rfl)) ?_
         try go_wp2
         refine bodyPost_ret (results_ctt rfl _ _ gb137 107 #[.int .i64 2, .string (strOfNums x5_1)] (0, 0) _ rfl (by (with_reducible repeat (first | refine blk_drewN ?_ _ | refine blk_drew ?_ | refine blk_alloc ?_ _)); refine blk_put (cs := #[.int .i64 2, .string x138001_1]) ?_ 1 _ rfl; (with_reducible repeat (first | refine blk_drewN ?_ _ | refine blk_drew ?_ | refine blk_alloc ?_ _)); exact blk_put (cs := #[.int .i64 x138000_1, .string x138001_1]) bk 0 _ rfl) Tryd.underlying107 rfl (by kernel_rfl)) rfl ?_; exact ⟨by first | rfl | (simp [errW_none, errW_some] <;> rfl) | (simp only [← hji22]; first | rfl | (simp [errW_none, errW_some] <;> rfl)) | (simp [*, errW_none, errW_some] <;> rfl), bwS⟩
        rw [if_neg c24] at H; exact absurd H (by simp)
       rw [if_neg c23] at H; exact absurd H (by simp)
      rw [if_neg c21] at H; have c21b0 := beq_eq_false_iff_ne.mpr c21; have c21b1 := bne_iff_ne.mpr c21; replace H := Option.bind_eq_some_iff.mp H; obtain ⟨t143, A290, H⟩ := H; have A29 := Aside0.mk A290; clear A290
      by_cases c30 : t143 = true
      ·subst c30; rw [if_pos rfl] at H
       by_cases c31 : x5_1.length < 140737488355328
       ·rw [if_pos c31] at H; have LMc31 := Aside0.mk c31; clear c31; obtain ⟨y144, hy144⟩ : ∃ y_ : List Int, y_ = (x5_1 ++ [bt a0 x6_1]) := ⟨_, rfl⟩
        replace H : (lex_quoted.l0 k1 a0 y144 (wrap64 (x6_1 + 1))) = some (r1, r2, r3, r4) := by first | (rw [hy144]; with_reducible exact H) | (have H2_ := (Option.bind_some _ _).symm.trans H; rw [hy144]; with_reducible exact H2_) | (have H2_ := (Option.bind_some _ _).symm.trans H; with_reducible exact H2_) | with_reducible exact H | (rw [hy144]; exact H) | exact H
        have Ny144 := Aside0.mk hy144; clear hy144; have H' := Aside0.mk H; clear H; have p5 : 0 ≤ (x6_1 : Int) := od; have q5 : x6_1 < (a0.size : Int) := od; have hx5 := bt_at a0 x6_1; replace p5 := eq_true p5; replace q5 := eq_true q5
        go_wp2_with (first | ((with_reducible refine gate_callee (f := 112) rfl ?_); refine goesL_ (some 26) rfl rfl Tryd.func112 (by kernel_rfl) rfl #[.string (a0.extract (x6_1 : Int).toNat a0.size)] rfl am ?_; (with_reducible refine (lex_fold.calls (a0.extract (x6_1 : Int).toNat a0.size) false _ A8.out).mono ?_); rintro e w' ⟨rfl, ⟨nd, rfl⟩⟩; refine ⟨_, rfl, ?_⟩) | ((with_reducible refine gate_callee (f := 141) rfl ?_); refine goesL_ (some 60) rfl rfl Tryd.func141 (by kernel_rfl) rfl #[.int .u8 (bt a0 x6_1)] rfl am ?_; (with_reducible refine (lex_text.calls (bt a0 x6_1) true _ A29.out).mono ?_); rintro e w' ⟨rfl, ⟨nd, rfl⟩⟩; refine ⟨_, rfl, ?_⟩) | ((with_reducible refine gate_builtin (b := .append) (xs := #[.tmp 18, .tmp 20]) rfl ?_); at_builtin; refine Kd.R_append (Kd.int .u8) (w0 := w) w.heap.size rfl (.tmp 18) (.tmp 20) 83 5 (.int .u8 0) 1 rfl Tryd.underlying83 info5 rfl (by decide) (by omega) u5 x5_1 (bt a0 x6_1) [.int .u8 (bt a0 x6_1)] (fun _ => True) (fun _ => False) rfl rfl ?aP (fun _ hk => hk.elim) ?aF ?aO ?aB ?aS ?aL ?_; (case aP => exact rfl); (case aB => exact bwS); (case aF => exact (fun _ _ => trivial)); (case aO => exact (ra HO_5.out)); (case aS => exact (below_size bwS)); (case aL => have := LMc31.out; omega); intro v145 w32 ho hb hg hat; rw [← Ny144.out] at ho; have n0_ := Aside0.mk (blk_grown (g := gb137) (o := .cells #[.int .i64 x138000_1, .string x138001_1] 107 (0, 0)) bk hg (Kd.R_ne HO_5.out BK137.out (by decide))); have n1_ := Aside0.mk (hb); have n2_ := Aside0.mk (ho); clear BK137; clear HB; clear HO_5; have BK137 := n0_; have HB := n1_; have HO146 := n2_; clear n0_ n1_ n2_; clear ho hb hg hat))
        go_roundg k1
        case measure => have := HK1.out; omega
        case rel => exact ⟨(y144), (wrap64 (x6_1 + 1)), (x138000_1), (x138001_1), cl, H', ⟨by have := HK1.out; omega⟩, ⟨ra HO146.out⟩, ⟨bk⟩, ⟨bwS⟩⟩
       rw [if_neg c31] at H; exact absurd H (by simp)
      replace c30 := Bool.eq_false_iff.mpr c30; subst c30; rw [if_neg nft] at H; simp only [Option.some.injEq, Prod.mk.injEq] at H; obtain ⟨rfl, rfl, rfl, rfl⟩ := H; have p5 : 0 ≤ (x6_1 : Int) := od; have q5 : x6_1 < (a0.size : Int) := od; have hx5 := bt_at a0 x6_1; replace p5 := eq_true p5; replace q5 := eq_true q5
      go_wp2_with (first | ((with_reducible refine gate_callee (f := 112) rfl ?_); refine goesL_ (some 26) rfl rfl Tryd.func112 (by kernel_rfl) rfl #[.string (a0.extract (x6_1 : Int).toNat a0.size)] rfl am ?_; (with_reducible refine (lex_fold.calls (a0.extract (x6_1 : Int).toNat a0.size) false _ A8.out).mono ?_); rintro e w' ⟨rfl, ⟨nd, rfl⟩⟩; refine ⟨_, rfl, ?_⟩; (try (rw [drewN_self wr]; generalize hq_ : World.drewN wr _ = wr; have n0_ : Aside0 (Kd.R (Kd.int .u8) 5 wr w.heap.size (fun _ => True) u5 x5_1) := ⟨by rw [← hq_]; exact (ra HO_5.out)⟩; have n1_ : Aside0 (wr.heap[gb137]? = some (.cells #[.int .i64 x138000_1, .string x138001_1] 107 (0, 0))) := ⟨by rw [← hq_]; exact bk⟩; have n2_ : Aside0 (Below w.heap.size w wr) := ⟨by rw [← hq_]; exact bwS⟩; clear HO_5 BK137 HB hq_; have HO_5 := n0_; have BK137 := n1_; have HB := n2_; clear n0_ n1_ n2_))) | ((with_reducible refine gate_callee (f := 141) rfl ?_); refine goesL_ (some 60) rfl rfl Tryd.func141 (by kernel_rfl) rfl #[.int .u8 (bt a0 x6_1)] rfl am ?_; (with_reducible refine (lex_text.calls (bt a0 x6_1) false _ A29.out).mono ?_); rintro e w' ⟨rfl, ⟨nd, rfl⟩⟩; refine ⟨_, rfl, ?_⟩; (try (rw [drewN_self wr]; generalize hq_ : World.drewN wr _ = wr; have n0_ : Aside0 (Kd.R (Kd.int .u8) 5 wr w.heap.size (fun _ => True) u5 x5_1) := ⟨by rw [← hq_]; exact (ra HO_5.out)⟩; have n1_ : Aside0 (wr.heap[gb137]? = some (.cells #[.int .i64 x138000_1, .string x138001_1] 107 (0, 0))) := ⟨by rw [← hq_]; exact bk⟩; have n2_ : Aside0 (Below w.heap.size w wr) := ⟨by rw [← hq_]; exact bwS⟩; clear HO_5 BK137 HB hq_; have HO_5 := n0_; have BK137 := n1_; have HB := n2_; clear n0_ n1_ n2_)); have hcz33_0 : wr.cell? ⟨gb137, 0, none⟩ = some (.int .i64 x138000_1) := (blk_cell BK137.out 0).trans rfl; have hcz33_1 : wr.cell? ⟨gb137, 1, none⟩ = some (.string x138001_1) := (blk_cell BK137.out 1).trans rfl; have hfz33_0 := blk_frozen BK137.out 0; have hfz33_1 := blk_frozen BK137.out 1))
      refine bodyPost_ret (results_ctt rfl _ _ gb137 107 #[.int .i64 0, .string (⟨#[]⟩ : ByteArray)] (0, 0) _ rfl (by (with_reducible repeat (first | refine blk_drewN ?_ _ | refine blk_drew ?_ | refine blk_alloc ?_ _)); refine blk_put (cs := #[.int .i64 0, .string x138001_1]) ?_ 1 _ rfl; (with_reducible repeat (first | refine blk_drewN ?_ _ | refine blk_drew ?_ | refine blk_alloc ?_ _)); exact blk_put (cs := #[.int .i64 x138000_1, .string x138001_1]) bk 0 _ rfl) Tryd.underlying107 rfl (by kernel_rfl)) rfl ?_; exact ⟨ew, bwS⟩
     rw [if_neg c7] at H; exact absurd H (by simp)
    rw [if_neg c4] at H; exact absurd H (by simp)
   rw [if_neg c3] at H; have c3b0 := decide_eq_false c3; clear c3; simp only [Option.some.injEq, Prod.mk.injEq] at H; obtain ⟨rfl, rfl, rfl, rfl⟩ := H; obtain ⟨hcz34_0, hcz34_1, hfz34_0, hfz34_1⟩ := bk2 BK137.out
   go_wp2
   refine bodyPost_ret (results_ctt rfl _ _ gb137 107 #[.int .i64 0, .string (⟨#[]⟩ : ByteArray)] (0, 0) _ rfl (by (with_reducible repeat (first | refine blk_drewN ?_ _ | refine blk_drew ?_ | refine blk_alloc ?_ _)); refine blk_put (cs := #[.int .i64 0, .string x138001_1]) ?_ 1 _ rfl; (with_reducible repeat (first | refine blk_drewN ?_ _ | refine blk_drew ?_ | refine blk_alloc ?_ _)); exact blk_put (cs := #[.int .i64 x138000_1, .string x138001_1]) bk 0 _ rfl) Tryd.underlying107 rfl (by kernel_rfl)) rfl ?_; exact ⟨ew, bwS⟩

def lex_sign.f (a0 : Int) : Option (Bool) := (strings_IndexByte.f (⟨#[60, 62, 58, 59, 64, 44, 46]⟩ : ByteArray) a0).bind fun t147 => (some (decide (t147 ≥ 0)))
set_option maxHeartbeats 8000000 in
set_option maxRecDepth 100000 in
theorem lex_sign.calls (a0 : Int) (r : Bool) (w : World) (h : lex_sign.f a0 = some r) :
  Calls Tryd.prog 115 #[.int .u8 a0] w fun e w' => e = .returned (.bool r) ∧ Drawn0 w w' := by
 have H : ((strings_IndexByte.f (⟨#[60, 62, 58, 59, 64, 44, 46]⟩ : ByteArray) a0).bind fun t147 => (some (decide (t147 ≥ 0)))) = some r := h; clear h; replace H := Option.bind_eq_some_iff.mp H; obtain ⟨t147, A20, H⟩ := H; have A2 := Aside0.mk A20; clear A20; obtain rfl := Option.some.inj H
 go_enter Tryd.func115, Tryd.ntmps115
 go_wp2_with (first | ((with_reducible refine gate_callee (f := 142) rfl ?_); refine goesL_ (some 4) rfl rfl Tryd.func142 (by kernel_rfl) rfl #[.string (⟨#[60, 62, 58, 59, 64, 44, 46]⟩ : ByteArray), .int .u8 a0] rfl am ?_; (with_reducible refine (strings_IndexByte.calls (⟨#[60, 62, 58, 59, 64, 44, 46]⟩ : ByteArray) a0 t147 _ A2.out).mono ?_); rintro e w' ⟨rfl, ⟨nd, rfl⟩⟩; refine ⟨_, rfl, ?_⟩))
 go_ret
 exact ⟨cl, d0⟩

def lex_next.l0 : Nat → ByteArray → Int → Option (Int × ByteArray × ByteArray × Int)
 | 0, _, _ => none
 | k + 1, x0, x8 => if x8 < (x0.size : Int) then (if 0 ≤ x8 then ((lex_atomic.f (bt x0 x8)).bind fun t158 => (if t158 = true then (lex_next.l0 k x0 (wrap64 (x8 + 1))) else (if x8 = 0 then (some (0, (⟨#[]⟩ : ByteArray), (⟨#[]⟩ : ByteArray), 3)) else (if x8 ≤ (x0.size : Int) then (some (1, x0.extract 0 (x8 : Int).toNat, x0.extract (x8 : Int).toNat x0.size, 0)) else (none))))) else (none)) else (if x8 = 0 then (some (0, (⟨#[]⟩ : ByteArray), (⟨#[]⟩ : ByteArray), 3)) else (if 0 ≤ x8 then (if x8 ≤ (x0.size : Int) then (some (1, x0.extract 0 (x8 : Int).toNat, x0.extract (x8 : Int).toNat x0.size, 0)) else (none)) else (none)))
def lex_next.f (k : Nat) (a0 : ByteArray) : Option (Int × ByteArray × ByteArray × Int) := if 0 < (a0.size : Int) then ((lex_white.f (bt a0 0)).bind fun t149 => (if t149 = true then (if 1 ≤ (a0.size : Int) then (some (0, (⟨#[]⟩ : ByteArray), a0.extract 1 a0.size, 0)) else (none)) else ((lex_fold.f a0).bind fun t150 => (if t150 = true then (if 2 ≤ (a0.size : Int) then (some (0, (⟨#[]⟩ : ByteArray), a0.extract 2 a0.size, 0)) else (none)) else (if (bt a0 0) = 40 then ((lex_comment.f k a0).bind fun bt151 => (some (0, (⟨#[]⟩ : ByteArray), bt151.1, bt151.2))) else (if (bt a0 0) = 34 then ((lex_quoted.f k a0).bind fun bt153 => (some (bt153.1, bt153.2.1, bt153.2.2.1, bt153.2.2.2))) else ((lex_sign.f (bt a0 0)).bind fun t157 => (if t157 = true then (if 0 ≤ 1 then (if 1 ≤ (a0.size : Int) then (some (3, a0.extract 0 1, a0.extract 1 a0.size, 0)) else (none)) else (none)) else (lex_next.l0 k a0 0))))))))) else (none)
def lex_next.T12 : Bool × List (List Nat × List Nat) := (true, [([], []), ([0], [0]), ([1], [1]), ([], []), ([3], [3]), ([2, 0, 1, 2], [2]), ([4, 5, 0, 1, 2, 3, 4, 5], [4]), ([6, 0, 1, 2, 3, 4, 5, 6], [])])
def lex_next.B12 : List Nat := [0, 1, 3, 0, 8, 7, 63, 127]
theorem lex_next.tab12 : rtab .any (opsOf Tryd.f71 12) = lex_next.T12 := by kernel_rfl
theorem lex_next.bits12 : waitsOk lex_next.T12.2 lex_next.B12 = true := by kernel_rfl
def lex_next.T18 : Bool × List (List Nat × List Nat) := (true, [([], []), ([], []), ([0, 1], [0, 1]), ([2], [2]), ([], []), ([], []), ([4, 5], [4, 5]), ([3, 0, 1, 2, 3], [3]), ([6, 7, 0, 1, 2, 3, 4, 5, 6, 7], [6]), ([8, 0, 1, 2, 3, 4, 5, 6, 7, 8], [])])
def lex_next.B18 : List Nat := [0, 0, 3, 7, 0, 0, 48, 15, 255, 511]
theorem lex_next.tab18 : rtab .any (opsOf Tryd.f71 18) = lex_next.T18 := by kernel_rfl
theorem lex_next.bits18 : waitsOk lex_next.T18.2 lex_next.B18 = true := by kernel_rfl
set_option maxHeartbeats 8000000 in
set_option maxRecDepth 100000 in
theorem lex_next.calls (k : Nat) (a0 : ByteArray) (r1 : Int) (r2 : ByteArray) (r3 : ByteArray) (r4 : Int) (w : World) (h : lex_next.f k a0 = some (r1, r2, r3, r4)) :
  Calls Tryd.prog 71 #[.string a0] w fun e w' => e = .returned (.tuple #[.agg #[.int .i64 r1, .string r2], .string r3, .int .i64 r4]) ∧ Below w.heap.size w w' := by
 have hu107 := Tryd.underlying107; have HB := Aside0.mk (Below.refl w.heap.size w); have H : (if 0 < (a0.size : Int) then ((lex_white.f (bt a0 0)).bind fun t149 => (if t149 = true then (if 1 ≤ (a0.size : Int) then (some (0, (⟨#[]⟩ : ByteArray), a0.extract 1 a0.size, 0)) else (none)) else ((lex_fold.f a0).bind fun t150 => (if t150 = true then (if 2 ≤ (a0.size : Int) then (some (0, (⟨#[]⟩ : ByteArray), a0.extract 2 a0.size, 0)) else (none)) else (if (bt a0 0) = 40 then ((lex_comment.f k a0).bind fun bt151 => (some (0, (⟨#[]⟩ : ByteArray), bt151.1, bt151.2))) else (if (bt a0 0) = 34 then ((lex_quoted.f k a0).bind fun bt153 => (some (bt153.1, bt153.2.1, bt153.2.2.1, bt153.2.2.2))) else ((lex_sign.f (bt a0 0)).bind fun t157 => (if t157 = true then (if 0 ≤ 1 then (if 1 ≤ (a0.size : Int) then (some (3, a0.extract 0 1, a0.extract 1 a0.size, 0)) else (none)) else (none)) else (lex_next.l0 k a0 0))))))))) else (none)) = some (r1, r2, r3, r4) := h; clear h
 by_cases c2 : 0 < (a0.size : Int)
 ·rw [if_pos c2] at H; have c2b0 := decide_eq_true c2; have c2b1 : decide (0 < a0.size) = true := decide_eq_true (by omega); clear c2; replace H := Option.bind_eq_some_iff.mp H; obtain ⟨t149, A40, H⟩ := H; have A4 := Aside0.mk A40; clear A40
  by_cases c5 : t149 = true
  ·subst c5; rw [if_pos rfl] at H
   by_cases c6 : 1 ≤ (a0.size : Int)
   ·rw [if_pos c6] at H; have c6b0 := eq_true c6; have c6b1 := decide_eq_true c6; clear c6; simp only [Option.some.injEq, Prod.mk.injEq] at H; obtain ⟨rfl, rfl, rfl, rfl⟩ := H
    go_enter Tryd.func71, Tryd.ntmps71
    try go_wp2_with (first | ((with_reducible refine gate_dst (N := 2) rfl ?_); refine box_event ?hg (N := 2) ?hd (cs := #[.int .i64 0, .string (⟨#[]⟩ : ByteArray)]) (t := 107) ?hr ?_; (case hd => rfl); (case hg => rfl); (case hr => first | (go_simp; done) | (go_simp; rfl)); intro gb148 hg w7 hbox hb; have n0_ := Aside0.mk (below_step bw hb); have n1_ := Aside0.mk (hbox); have n2_ := Aside0.mk ((by rw [hg]; exact (below_size bw) : w.heap.size ≤ gb148)); have n3_ := Aside0.mk ((by rw [hg]; exact (below_size bw) : w.heap.size ≤ gb148)); clear HB; have HB := n0_; have BK148 := n1_; have GW148 := n2_; have GE148 := n3_; clear n0_ n1_ n2_ n3_; clear hb hbox hg; have p3 : 0 ≤ (0 : Int) := (by omega); have q3 : 0 < a0.size := (by have : (0 : Int) < (a0.size : Int) := od; omega); have hx3 : ∀ h : 0 < a0.size, ((a0[0]'h).toNat : Int) = bt a0 0 := bt_at a0 0; clear p3; have qi3 : (0 < (a0.size : Int)) = True := eq_true (od); replace q3 := eq_true q3) | ((with_reducible refine gate_callee (f := 111) rfl ?_); refine goesL_ (some 13) rfl rfl Tryd.func111 (by kernel_rfl) rfl #[.int .u8 (bt a0 0)] rfl am ?_; (with_reducible refine (lex_white.calls (bt a0 0) true _ A4.out).mono ?_); rintro e w' ⟨rfl, ⟨nd, rfl⟩⟩; refine ⟨_, rfl, ?_⟩; (try (rw [drewN_self w7]; generalize hq_ : World.drewN w7 _ = w7; have n0_ : Aside0 (w7.heap[gb148]? = some (.cells #[.int .i64 0, .string (⟨#[]⟩ : ByteArray)] 107 (0, 0))) := ⟨by rw [← hq_]; exact bk⟩; have n1_ : Aside0 (Below w.heap.size w w7) := ⟨by rw [← hq_]; exact bwS⟩; clear BK148 HB hq_; have BK148 := n0_; have HB := n1_; clear n0_ n1_))))
    have n0_ := Aside0.mk (blk_drew BK148.out); have n1_ := Aside0.mk (below_drew1 HB.out); clear BK148 HB; have BK148 := n0_; have HB := n1_; clear n0_ n1_; refine start_ (n := 6) (S := fun w' => True) (ds := []) #[false, false, false, false, false, false] (by kernel_rfl) rfl rfl trivial (fun hHeld => ?_); generalize w7.drew = w8 at BK148 HB hHeld ⊢
    refine pure_ (i := 0) (N := some 14) (v := ?_) (a' := ?_) #[true, false, false, false, false, false] rfl rfl (by kernel_rfl) (fun _ _ _ h => h) (Or.inl ⟨by rfl, ?_⟩) ?_ ?_; rotate_left
    ·intro w'; go_simp; with_reducible rfl
    rotate_left
    ·simp only [Act.put, List.setIfInBounds_toArray, List.set_cons_zero, List.set_cons_succ, i64_w, i32_w]; rfl
    refine pure_ (i := 1) (N := some 15) (v := ?_) (a' := ?_) #[true, true, false, false, false, false] rfl rfl (by kernel_rfl) (fun _ _ _ h => h) (Or.inl ⟨by rfl, ?_⟩) ?_ ?_; rotate_left
    ·intro w'; go_simp; with_reducible rfl
    rotate_left
    ·simp only [Act.put, List.setIfInBounds_toArray, List.set_cons_zero, List.set_cons_succ, i64_w, i32_w]; rfl
    refine pure_ (i := 2) (N := some 16) (v := ?_) (a' := ?_) #[true, true, true, false, false, false] rfl rfl (by kernel_rfl) (fun _ _ _ h => h) (Or.inl ⟨by rfl, ?_⟩) ?_ ?_; rotate_left
    ·intro w'; go_simp; with_reducible rfl
    rotate_left
    ·simp only [Act.put, List.setIfInBounds_toArray, List.set_cons_zero, List.set_cons_succ, i64_w, i32_w]; rfl
    refine one_ (i := 3) (N := none) #[true, true, true, true, false, false] rfl rfl (by kernel_rfl) (by decide) (fun K hK => ?_); have hs9 : w8.cell? ⟨gb148, 0, none⟩ = some (.int .i64 0) := (blk_cell BK148.out 0).trans rfl; have hfs9 := blk_frozen BK148.out 0; have hs10 : w8.cell? ⟨gb148, 1, none⟩ = some (.string (⟨#[]⟩ : ByteArray)) := (blk_cell BK148.out 1).trans rfl; have hfs10 := blk_frozen BK148.out 1; refine skip_ (w1 := ?_) (by rfl) rfl ?_ ?_; rotate_left
    ·go_simp; rfl
    refine hK.out _ _ trivial (fun hHeld => ?_); clear hK K; refine pure_ (i := 4) (N := some 3) (v := ?_) (a' := ?_) #[true, true, true, true, true, false] rfl rfl (by kernel_rfl) (fun _ _ _ h => h) (Or.inl ⟨by rfl, ?_⟩) ?_ ?_; rotate_left
    ·intro w'; go_simp; with_reducible rfl
    rotate_left
    ·simp only [Act.put, List.setIfInBounds_toArray, List.set_cons_zero, List.set_cons_succ, i64_w, i32_w]; rfl
    refine pure_ (i := 5) (N := some 4) (v := ?_) (a' := ?_) #[true, true, true, true, true, true] rfl rfl (by kernel_rfl) (fun _ _ _ h => h) (Or.inl ⟨by rfl, ?_⟩) ?_ ?_; rotate_left
    ·intro w'; go_simp; with_reducible rfl
    rotate_left
    ·simp only [Act.put, List.setIfInBounds_toArray, List.set_cons_zero, List.set_cons_succ, i64_w, i32_w]; rfl
    refine done_ (by kernel_rfl) ?_
    try go_wp2
    refine bodyPost_ret (results_ctt rfl _ _ gb148 107 #[.int .i64 0, .string (⟨#[]⟩ : ByteArray)] (0, 0) _ rfl (by (with_reducible repeat (first | refine blk_drewN ?_ _ | refine blk_drew ?_ | refine blk_alloc ?_ _)); refine blk_put (cs := #[.int .i64 0, .string (⟨#[]⟩ : ByteArray)]) ?_ 1 _ rfl; (with_reducible repeat (first | refine blk_drewN ?_ _ | refine blk_drew ?_ | refine blk_alloc ?_ _)); exact blk_put (cs := #[.int .i64 0, .string (⟨#[]⟩ : ByteArray)]) bk 0 _ rfl) Tryd.underlying107 rfl (by kernel_rfl)) rfl ?_; exact ⟨ew, bwS⟩
   rw [if_neg c6] at H; exact absurd H (by simp)
  replace c5 := Bool.eq_false_iff.mpr c5; subst c5; rw [if_neg nft] at H; replace H := Option.bind_eq_some_iff.mp H; obtain ⟨t150, A110, H⟩ := H; have A11 := Aside0.mk A110; clear A110
  by_cases c12 : t150 = true
  ·subst c12; rw [if_pos rfl] at H
   by_cases c13 : 2 ≤ (a0.size : Int)
   ·rw [if_pos c13] at H; have c13b0 := eq_true c13; have c13b1 := decide_eq_true c13; clear c13; simp only [Option.some.injEq, Prod.mk.injEq] at H; obtain ⟨rfl, rfl, rfl, rfl⟩ := H
    go_enter Tryd.func71, Tryd.ntmps71
    try go_wp2_with (first | ((with_reducible refine gate_dst (N := 2) rfl ?_); refine box_event ?hg (N := 2) ?hd (cs := #[.int .i64 0, .string (⟨#[]⟩ : ByteArray)]) (t := 107) ?hr ?_; (case hd => rfl); (case hg => rfl); (case hr => first | (go_simp; done) | (go_simp; rfl)); intro gb148 hg w14 hbox hb; have n0_ := Aside0.mk (below_step bw hb); have n1_ := Aside0.mk (hbox); have n2_ := Aside0.mk ((by rw [hg]; exact (below_size bw) : w.heap.size ≤ gb148)); have n3_ := Aside0.mk ((by rw [hg]; exact (below_size bw) : w.heap.size ≤ gb148)); clear HB; have HB := n0_; have BK148 := n1_; have GW148 := n2_; have GE148 := n3_; clear n0_ n1_ n2_ n3_; clear hb hbox hg; have p3 : 0 ≤ (0 : Int) := (by omega); have q3 : 0 < a0.size := (by have : (0 : Int) < (a0.size : Int) := od; omega); have hx3 : ∀ h : 0 < a0.size, ((a0[0]'h).toNat : Int) = bt a0 0 := bt_at a0 0; clear p3; have qi3 : (0 < (a0.size : Int)) = True := eq_true (od); replace q3 := eq_true q3) | ((with_reducible refine gate_callee (f := 111) rfl ?_); refine goesL_ (some 13) rfl rfl Tryd.func111 (by kernel_rfl) rfl #[.int .u8 (bt a0 0)] rfl am ?_; (with_reducible refine (lex_white.calls (bt a0 0) false _ A4.out).mono ?_); rintro e w' ⟨rfl, ⟨nd, rfl⟩⟩; refine ⟨_, rfl, ?_⟩; (try (rw [drewN_self w14]; generalize hq_ : World.drewN w14 _ = w14; have n0_ : Aside0 (w14.heap[gb148]? = some (.cells #[.int .i64 0, .string (⟨#[]⟩ : ByteArray)] 107 (0, 0))) := ⟨by rw [← hq_]; exact bk⟩; have n1_ : Aside0 (Below w.heap.size w w14) := ⟨by rw [← hq_]; exact bwS⟩; clear BK148 HB hq_; have BK148 := n0_; have HB := n1_; clear n0_ n1_))) | ((with_reducible refine gate_callee (f := 112) rfl ?_); refine goesL_ (some 19) rfl rfl Tryd.func112 (by kernel_rfl) rfl #[.string a0] rfl am ?_; (with_reducible refine (lex_fold.calls a0 true _ A11.out).mono ?_); rintro e w' ⟨rfl, ⟨nd, rfl⟩⟩; refine ⟨_, rfl, ?_⟩; (try (rw [drewN_self w14]; generalize hq_ : World.drewN w14 _ = w14; have n0_ : Aside0 (w14.heap[gb148]? = some (.cells #[.int .i64 0, .string (⟨#[]⟩ : ByteArray)] 107 (0, 0))) := ⟨by rw [← hq_]; exact bk⟩; have n1_ : Aside0 (Below w.heap.size w w14) := ⟨by rw [← hq_]; exact bwS⟩; clear BK148 HB hq_; have BK148 := n0_; have HB := n1_; clear n0_ n1_))))
    have n0_ := Aside0.mk (blk_drew BK148.out); have n1_ := Aside0.mk (below_drew1 HB.out); clear BK148 HB; have BK148 := n0_; have HB := n1_; clear n0_ n1_; refine start_ (n := 6) (S := fun w' => True) (ds := []) #[false, false, false, false, false, false] (by kernel_rfl) rfl rfl trivial (fun hHeld => ?_); generalize w14.drew = w15 at BK148 HB hHeld ⊢
    refine pure_ (i := 0) (N := some 20) (v := ?_) (a' := ?_) #[true, false, false, false, false, false] rfl rfl (by kernel_rfl) (fun _ _ _ h => h) (Or.inl ⟨by rfl, ?_⟩) ?_ ?_; rotate_left
    ·intro w'; go_simp; with_reducible rfl
    rotate_left
    ·simp only [Act.put, List.setIfInBounds_toArray, List.set_cons_zero, List.set_cons_succ, i64_w, i32_w]; rfl
    refine pure_ (i := 1) (N := some 21) (v := ?_) (a' := ?_) #[true, true, false, false, false, false] rfl rfl (by kernel_rfl) (fun _ _ _ h => h) (Or.inl ⟨by rfl, ?_⟩) ?_ ?_; rotate_left
    ·intro w'; go_simp; with_reducible rfl
    rotate_left
    ·simp only [Act.put, List.setIfInBounds_toArray, List.set_cons_zero, List.set_cons_succ, i64_w, i32_w]; rfl
    refine pure_ (i := 2) (N := some 22) (v := ?_) (a' := ?_) #[true, true, true, false, false, false] rfl rfl (by kernel_rfl) (fun _ _ _ h => h) (Or.inl ⟨by rfl, ?_⟩) ?_ ?_; rotate_left
    ·intro w'; go_simp; with_reducible rfl
    rotate_left
    ·simp only [Act.put, List.setIfInBounds_toArray, List.set_cons_zero, List.set_cons_succ, i64_w, i32_w]; rfl
    refine one_ (i := 3) (N := none) #[true, true, true, true, false, false] rfl rfl (by kernel_rfl) (by decide) (fun K hK => ?_); have hs16 : w15.cell? ⟨gb148, 0, none⟩ = some (.int .i64 0) := (blk_cell BK148.out 0).trans rfl; have hfs16 := blk_frozen BK148.out 0; have hs17 : w15.cell? ⟨gb148, 1, none⟩ = some (.string (⟨#[]⟩ : ByteArray)) := (blk_cell BK148.out 1).trans rfl; have hfs17 := blk_frozen BK148.out 1; refine skip_ (w1 := ?_) (by rfl) rfl ?_ ?_; rotate_left
    ·go_simp; rfl
    refine hK.out _ _ trivial (fun hHeld => ?_); clear hK K; refine pure_ (i := 4) (N := some 3) (v := ?_) (a' := ?_) #[true, true, true, true, true, false] rfl rfl (by kernel_rfl) (fun _ _ _ h => h) (Or.inl ⟨by rfl, ?_⟩) ?_ ?_; rotate_left
    ·intro w'; go_simp; with_reducible rfl
    rotate_left
    ·simp only [Act.put, List.setIfInBounds_toArray, List.set_cons_zero, List.set_cons_succ, i64_w, i32_w]; rfl
    refine pure_ (i := 5) (N := some 4) (v := ?_) (a' := ?_) #[true, true, true, true, true, true] rfl rfl (by kernel_rfl) (fun _ _ _ h => h) (Or.inl ⟨by rfl, ?_⟩) ?_ ?_; rotate_left
    ·intro w'; go_simp; with_reducible rfl
    rotate_left
    ·simp only [Act.put, List.setIfInBounds_toArray, List.set_cons_zero, List.set_cons_succ, i64_w, i32_w]; rfl
    refine done_ (by kernel_rfl) ?_
    try go_wp2
    refine bodyPost_ret (results_ctt rfl _ _ gb148 107 #[.int .i64 0, .string (⟨#[]⟩ : ByteArray)] (0, 0) _ rfl (by (with_reducible repeat (first | refine blk_drewN ?_ _ | refine blk_drew ?_ | refine blk_alloc ?_ _)); refine blk_put (cs := #[.int .i64 0, .string (⟨#[]⟩ : ByteArray)]) ?_ 1 _ rfl; (with_reducible repeat (first | refine blk_drewN ?_ _ | refine blk_drew ?_ | refine blk_alloc ?_ _)); exact blk_put (cs := #[.int .i64 0, .string (⟨#[]⟩ : ByteArray)]) bk 0 _ rfl) Tryd.underlying107 rfl (by kernel_rfl)) rfl ?_; exact ⟨ew, bwS⟩
   rw [if_neg c13] at H; exact absurd H (by simp)
  replace c12 := Bool.eq_false_iff.mpr c12; subst c12; rw [if_neg nft] at H
  by_cases c18 : (bt a0 0) = 40
  ·rw [if_pos c18] at H; have c18b0 := beq_iff_eq.mpr c18; have c18b1 := bne_eq_false_iff_eq.mpr c18; clear c18; replace H := Option.bind_eq_some_iff.mp H; obtain ⟨⟨t151, t152⟩, A190, H⟩ := H; replace H : (some (0, (⟨#[]⟩ : ByteArray), t151, t152)) = some (r1, r2, r3, r4) := H; have A19 := Aside0.mk A190; clear A190; simp only [Option.some.injEq, Prod.mk.injEq] at H; obtain ⟨rfl, rfl, rfl, rfl⟩ := H
   go_enter Tryd.func71, Tryd.ntmps71
   go_wp2_with (first | ((with_reducible refine gate_dst (N := 2) rfl ?_); refine box_event ?hg (N := 2) ?hd (cs := #[.int .i64 0, .string (⟨#[]⟩ : ByteArray)]) (t := 107) ?hr ?_; (case hd => rfl); (case hg => rfl); (case hr => first | (go_simp; done) | (go_simp; rfl)); intro gb148 hg w20 hbox hb; have n0_ := Aside0.mk (below_step bw hb); have n1_ := Aside0.mk (hbox); have n2_ := Aside0.mk ((by rw [hg]; exact (below_size bw) : w.heap.size ≤ gb148)); have n3_ := Aside0.mk ((by rw [hg]; exact (below_size bw) : w.heap.size ≤ gb148)); clear HB; have HB := n0_; have BK148 := n1_; have GW148 := n2_; have GE148 := n3_; clear n0_ n1_ n2_ n3_; clear hb hbox hg; have p3 : 0 ≤ (0 : Int) := (by omega); have q3 : 0 < a0.size := (by have : (0 : Int) < (a0.size : Int) := od; omega); have hx3 : ∀ h : 0 < a0.size, ((a0[0]'h).toNat : Int) = bt a0 0 := bt_at a0 0; clear p3; have qi3 : (0 < (a0.size : Int)) = True := eq_true (od); replace q3 := eq_true q3) | ((with_reducible refine gate_callee (f := 111) rfl ?_); refine goesL_ (some 13) rfl rfl Tryd.func111 (by kernel_rfl) rfl #[.int .u8 (bt a0 0)] rfl am ?_; (with_reducible refine (lex_white.calls (bt a0 0) false _ A4.out).mono ?_); rintro e w' ⟨rfl, ⟨nd, rfl⟩⟩; refine ⟨_, rfl, ?_⟩; (try (rw [drewN_self w20]; generalize hq_ : World.drewN w20 _ = w20; have n0_ : Aside0 (w20.heap[gb148]? = some (.cells #[.int .i64 0, .string (⟨#[]⟩ : ByteArray)] 107 (0, 0))) := ⟨by rw [← hq_]; exact bk⟩; have n1_ : Aside0 (Below w.heap.size w w20) := ⟨by rw [← hq_]; exact bwS⟩; clear BK148 HB hq_; have BK148 := n0_; have HB := n1_; clear n0_ n1_))) | ((with_reducible refine gate_callee (f := 112) rfl ?_); refine goesL_ (some 19) rfl rfl Tryd.func112 (by kernel_rfl) rfl #[.string a0] rfl am ?_; (with_reducible refine (lex_fold.calls a0 false _ A11.out).mono ?_); rintro e w' ⟨rfl, ⟨nd, rfl⟩⟩; refine ⟨_, rfl, ?_⟩; (try (rw [drewN_self w20]; generalize hq_ : World.drewN w20 _ = w20; have n0_ : Aside0 (w20.heap[gb148]? = some (.cells #[.int .i64 0, .string (⟨#[]⟩ : ByteArray)] 107 (0, 0))) := ⟨by rw [← hq_]; exact bk⟩; have n1_ : Aside0 (Below w.heap.size w w20) := ⟨by rw [← hq_]; exact bwS⟩; clear BK148 HB hq_; have BK148 := n0_; have HB := n1_; clear n0_ n1_))) | ((with_reducible refine gate_callee (f := 113) rfl ?_); refine goesL_ (some 28) rfl rfl Tryd.func113 (by kernel_rfl) rfl #[.string a0] rfl am ?_; (with_reducible refine (lex_comment.calls k a0 t151 t152 _ A19.out).mono ?_); rintro e w' ⟨rfl, ⟨nd, rfl⟩⟩; refine ⟨_, rfl, ?_⟩; (try (rw [drewN_self w20]; generalize hq_ : World.drewN w20 _ = w20; have n0_ : Aside0 (w20.heap[gb148]? = some (.cells #[.int .i64 0, .string (⟨#[]⟩ : ByteArray)] 107 (0, 0))) := ⟨by rw [← hq_]; exact bk⟩; have n1_ : Aside0 (Below w.heap.size w w20) := ⟨by rw [← hq_]; exact bwS⟩; clear BK148 HB hq_; have BK148 := n0_; have HB := n1_; clear n0_ n1_)); have hcz21_0 : w20.cell? ⟨gb148, 0, none⟩ = some (.int .i64 0) := (blk_cell BK148.out 0).trans rfl; have hcz21_1 : w20.cell? ⟨gb148, 1, none⟩ = some (.string (⟨#[]⟩ : ByteArray)) := (blk_cell BK148.out 1).trans rfl; have hfz21_0 := blk_frozen BK148.out 0; have hfz21_1 := blk_frozen BK148.out 1))
   refine bodyPost_ret (results_ctt rfl _ _ gb148 107 #[.int .i64 0, .string (⟨#[]⟩ : ByteArray)] (0, 0) _ rfl (by (with_reducible repeat (first | refine blk_drewN ?_ _ | refine blk_drew ?_ | refine blk_alloc ?_ _)); refine blk_put (cs := #[.int .i64 0, .string (⟨#[]⟩ : ByteArray)]) ?_ 1 _ rfl; (with_reducible repeat (first | refine blk_drewN ?_ _ | refine blk_drew ?_ | refine blk_alloc ?_ _)); exact blk_put (cs := #[.int .i64 0, .string (⟨#[]⟩ : ByteArray)]) bk 0 _ rfl) Tryd.underlying107 rfl (by kernel_rfl)) rfl ?_; exact ⟨ew, bwS⟩
  rw [if_neg c18] at H; have c18b0 := beq_eq_false_iff_ne.mpr c18; have c18b1 := bne_iff_ne.mpr c18
  by_cases c22 : (bt a0 0) = 34
  ·rw [if_pos c22] at H; have c22b0 := beq_iff_eq.mpr c22; have c22b1 := bne_eq_false_iff_eq.mpr c22; clear c22; replace H := Option.bind_eq_some_iff.mp H; obtain ⟨⟨t153, t154, t155, t156⟩, A230, H⟩ := H; replace H : (some (t153, t154, t155, t156)) = some (r1, r2, r3, r4) := H; have A23 := Aside0.mk A230; clear A230; simp only [Option.some.injEq, Prod.mk.injEq] at H; obtain ⟨rfl, rfl, rfl, rfl⟩ := H
   go_enter Tryd.func71, Tryd.ntmps71
   go_wp2_with (first | ((with_reducible refine gate_dst (N := 2) rfl ?_); refine box_event ?hg (N := 2) ?hd (cs := #[.int .i64 0, .string (⟨#[]⟩ : ByteArray)]) (t := 107) ?hr ?_; (case hd => rfl); (case hg => rfl); (case hr => first | (go_simp; done) | (go_simp; rfl)); intro gb148 hg w24 hbox hb; have n0_ := Aside0.mk (below_step bw hb); have n1_ := Aside0.mk (hbox); have n2_ := Aside0.mk ((by rw [hg]; exact (below_size bw) : w.heap.size ≤ gb148)); have n3_ := Aside0.mk ((by rw [hg]; exact (below_size bw) : w.heap.size ≤ gb148)); clear HB; have HB := n0_; have BK148 := n1_; have GW148 := n2_; have GE148 := n3_; clear n0_ n1_ n2_ n3_; clear hb hbox hg; have p3 : 0 ≤ (0 : Int) := (by omega); have q3 : 0 < a0.size := (by have : (0 : Int) < (a0.size : Int) := od; omega); have hx3 : ∀ h : 0 < a0.size, ((a0[0]'h).toNat : Int) = bt a0 0 := bt_at a0 0; clear p3; have qi3 : (0 < (a0.size : Int)) = True := eq_true (od); replace q3 := eq_true q3) | ((with_reducible refine gate_callee (f := 111) rfl ?_); refine goesL_ (some 13) rfl rfl Tryd.func111 (by kernel_rfl) rfl #[.int .u8 (bt a0 0)] rfl am ?_; (with_reducible refine (lex_white.calls (bt a0 0) false _ A4.out).mono ?_); rintro e w' ⟨rfl, ⟨nd, rfl⟩⟩; refine ⟨_, rfl, ?_⟩; (try (rw [drewN_self w24]; generalize hq_ : World.drewN w24 _ = w24; have n0_ : Aside0 (w24.heap[gb148]? = some (.cells #[.int .i64 0, .string (⟨#[]⟩ : ByteArray)] 107 (0, 0))) := ⟨by rw [← hq_]; exact bk⟩; have n1_ : Aside0 (Below w.heap.size w w24) := ⟨by rw [← hq_]; exact bwS⟩; clear BK148 HB hq_; have BK148 := n0_; have HB := n1_; clear n0_ n1_))) | ((with_reducible refine gate_callee (f := 112) rfl ?_); refine goesL_ (some 19) rfl rfl Tryd.func112 (by kernel_rfl) rfl #[.string a0] rfl am ?_; (with_reducible refine (lex_fold.calls a0 false _ A11.out).mono ?_); rintro e w' ⟨rfl, ⟨nd, rfl⟩⟩; refine ⟨_, rfl, ?_⟩; (try (rw [drewN_self w24]; generalize hq_ : World.drewN w24 _ = w24; have n0_ : Aside0 (w24.heap[gb148]? = some (.cells #[.int .i64 0, .string (⟨#[]⟩ : ByteArray)] 107 (0, 0))) := ⟨by rw [← hq_]; exact bk⟩; have n1_ : Aside0 (Below w.heap.size w w24) := ⟨by rw [← hq_]; exact bwS⟩; clear BK148 HB hq_; have BK148 := n0_; have HB := n1_; clear n0_ n1_))) | ((with_reducible refine gate_callee (f := 114) rfl ?_); refine goesL_ (some 38) rfl rfl Tryd.func114 (by kernel_rfl) rfl #[.string a0] rfl am ?_; (with_reducible refine (lex_quoted.calls k a0 t153 t154 t155 t156 _ A23.out).mono ?_); rintro e w25 ⟨rfl, hb⟩; refine ⟨_, rfl, ?_⟩; have n0_ := Aside0.mk (blk_below (g := gb148) (o := .cells #[.int .i64 0, .string (⟨#[]⟩ : ByteArray)] 107 (0, 0)) bk hb); have n1_ := Aside0.mk (below_step bwS hb); clear BK148; clear HB; have BK148 := n0_; have HB := n1_; clear n0_ n1_; (try clear hb); (try clear hb2); (try clear hk); (try clear hi); have hcz26_0 : w25.cell? ⟨gb148, 0, none⟩ = some (.int .i64 0) := (blk_cell BK148.out 0).trans rfl; have hcz26_1 : w25.cell? ⟨gb148, 1, none⟩ = some (.string (⟨#[]⟩ : ByteArray)) := (blk_cell BK148.out 1).trans rfl; have hfz26_0 := blk_frozen BK148.out 0; have hfz26_1 := blk_frozen BK148.out 1))
   refine bodyPost_ret (results_ctt rfl _ _ gb148 107 #[.int .i64 t153, .string t154] (0, 0) _ rfl (by (with_reducible repeat (first | refine blk_drewN ?_ _ | refine blk_drew ?_ | refine blk_alloc ?_ _)); refine blk_put (cs := #[.int .i64 t153, .string (⟨#[]⟩ : ByteArray)]) ?_ 1 _ rfl; (with_reducible repeat (first | refine blk_drewN ?_ _ | refine blk_drew ?_ | refine blk_alloc ?_ _)); exact blk_put (cs := #[.int .i64 0, .string (⟨#[]⟩ : ByteArray)]) bk 0 _ rfl) Tryd.underlying107 rfl (by kernel_rfl)) rfl ?_; exact ⟨ew, bwS⟩
  rw [if_neg c22] at H; have c22b0 := beq_eq_false_iff_ne.mpr c22; have c22b1 := bne_iff_ne.mpr c22; replace H := Option.bind_eq_some_iff.mp H; obtain ⟨t157, A270, H⟩ := H; have A27 := Aside0.mk A270; clear A270
  by_cases c28 : t157 = true
  ·subst c28; rw [if_pos rfl] at H
   by_cases c29 : 0 ≤ 1
   ·rw [if_pos c29] at H; have c29b0 := eq_true c29; have c29b1 := decide_eq_true c29; clear c29
    by_cases c30 : 1 ≤ (a0.size : Int)
    ·rw [if_pos c30] at H; have c30b0 := eq_true c30; have c30b1 := decide_eq_true c30; clear c30; have c31b0 := eq_true (od : 1 ≤ (a0.size : Int)); simp only [Option.some.injEq, Prod.mk.injEq] at H; obtain ⟨rfl, rfl, rfl, rfl⟩ := H
     go_enter Tryd.func71, Tryd.ntmps71
     try go_wp2_with (first | ((with_reducible refine gate_dst (N := 2) rfl ?_); refine box_event ?hg (N := 2) ?hd (cs := #[.int .i64 0, .string (⟨#[]⟩ : ByteArray)]) (t := 107) ?hr ?_; (case hd => rfl); (case hg => rfl); (case hr => first | (go_simp; done) | (go_simp; rfl)); intro gb148 hg w32 hbox hb; have n0_ := Aside0.mk (below_step bw hb); have n1_ := Aside0.mk (hbox); have n2_ := Aside0.mk ((by rw [hg]; exact (below_size bw) : w.heap.size ≤ gb148)); have n3_ := Aside0.mk ((by rw [hg]; exact (below_size bw) : w.heap.size ≤ gb148)); clear HB; have HB := n0_; have BK148 := n1_; have GW148 := n2_; have GE148 := n3_; clear n0_ n1_ n2_ n3_; clear hb hbox hg; have p3 : 0 ≤ (0 : Int) := (by omega); have q3 : 0 < a0.size := (by have : (0 : Int) < (a0.size : Int) := od; omega); have hx3 : ∀ h : 0 < a0.size, ((a0[0]'h).toNat : Int) = bt a0 0 := bt_at a0 0; clear p3; have qi3 : (0 < (a0.size : Int)) = True := eq_true (od); replace q3 := eq_true q3) | ((with_reducible refine gate_callee (f := 111) rfl ?_); refine goesL_ (some 13) rfl rfl Tryd.func111 (by kernel_rfl) rfl #[.int .u8 (bt a0 0)] rfl am ?_; (with_reducible refine (lex_white.calls (bt a0 0) false _ A4.out).mono ?_); rintro e w' ⟨rfl, ⟨nd, rfl⟩⟩; refine ⟨_, rfl, ?_⟩; (try (rw [drewN_self w32]; generalize hq_ : World.drewN w32 _ = w32; have n0_ : Aside0 (w32.heap[gb148]? = some (.cells #[.int .i64 0, .string (⟨#[]⟩ : ByteArray)] 107 (0, 0))) := ⟨by rw [← hq_]; exact bk⟩; have n1_ : Aside0 (Below w.heap.size w w32) := ⟨by rw [← hq_]; exact bwS⟩; clear BK148 HB hq_; have BK148 := n0_; have HB := n1_; clear n0_ n1_))) | ((with_reducible refine gate_callee (f := 112) rfl ?_); refine goesL_ (some 19) rfl rfl Tryd.func112 (by kernel_rfl) rfl #[.string a0] rfl am ?_; (with_reducible refine (lex_fold.calls a0 false _ A11.out).mono ?_); rintro e w' ⟨rfl, ⟨nd, rfl⟩⟩; refine ⟨_, rfl, ?_⟩; (try (rw [drewN_self w32]; generalize hq_ : World.drewN w32 _ = w32; have n0_ : Aside0 (w32.heap[gb148]? = some (.cells #[.int .i64 0, .string (⟨#[]⟩ : ByteArray)] 107 (0, 0))) := ⟨by rw [← hq_]; exact bk⟩; have n1_ : Aside0 (Below w.heap.size w w32) := ⟨by rw [← hq_]; exact bwS⟩; clear BK148 HB hq_; have BK148 := n0_; have HB := n1_; clear n0_ n1_))) | ((with_reducible refine gate_callee (f := 115) rfl ?_); refine goesL_ (some 44) rfl rfl Tryd.func115 (by kernel_rfl) rfl #[.int .u8 (bt a0 0)] rfl am ?_; (with_reducible refine (lex_sign.calls (bt a0 0) true _ A27.out).mono ?_); rintro e w' ⟨rfl, ⟨nd, rfl⟩⟩; refine ⟨_, rfl, ?_⟩; (try (rw [drewN_self w32]; generalize hq_ : World.drewN w32 _ = w32; have n0_ : Aside0 (w32.heap[gb148]? = some (.cells #[.int .i64 0, .string (⟨#[]⟩ : ByteArray)] 107 (0, 0))) := ⟨by rw [← hq_]; exact bk⟩; have n1_ : Aside0 (Below w.heap.size w w32) := ⟨by rw [← hq_]; exact bwS⟩; clear BK148 HB hq_; have BK148 := n0_; have HB := n1_; clear n0_ n1_))))
     have n0_ := Aside0.mk (blk_drew BK148.out); have n1_ := Aside0.mk (below_drew1 HB.out); clear BK148 HB; have BK148 := n0_; have HB := n1_; clear n0_ n1_; refine start_ (n := 8) (S := fun w' => True) (ds := []) #[false, false, false, false, false, false, false, false] (by kernel_rfl) rfl rfl trivial (fun hHeld => ?_); refine with_tabW lex_next.tab12 lex_next.bits12 (fun HT_ HW_ => ?_)
     generalize w32.drew = w33 at BK148 HB hHeld ⊢
     refine pure_ (i := 0) (N := some 45) (v := ?_) (a' := ?_) (bitsL 8 1) rfl rfl (any_of HT_.out (by kernel_rfl)) (fun _ _ _ h => h) (Or.inl ⟨by rfl, ?_⟩) ?_ ?_; rotate_left
     ·intro w'; go_simp; with_reducible rfl
     rotate_left
     ·simp only [Act.put, List.setIfInBounds_toArray, List.set_cons_zero, List.set_cons_succ, i64_w, i32_w]; rfl
     refine pure_ (i := 1) (N := some 46) (v := ?_) (a' := ?_) (bitsL 8 3) rfl rfl (any_of HT_.out (by kernel_rfl)) (fun _ _ _ h => h) (Or.inl ⟨by rfl, ?_⟩) ?_ ?_; rotate_left
     ·intro w'; go_simp; with_reducible rfl
     rotate_left
     ·simp only [Act.put, List.setIfInBounds_toArray, List.set_cons_zero, List.set_cons_succ, i64_w, i32_w]; rfl
     refine pure_ (i := 2) (N := some 47) (v := ?_) (a' := ?_) (bitsL 8 7) rfl rfl (any_of HT_.out (by kernel_rfl)) (fun _ _ _ h => h) (Or.inl ⟨by rfl, ?_⟩) ?_ ?_; rotate_left
     ·intro w'; go_simp; with_reducible rfl
     rotate_left
     ·simp only [Act.put, List.setIfInBounds_toArray, List.set_cons_zero, List.set_cons_succ, i64_w, i32_w]; rfl
     refine pure_ (i := 3) (N := some 48) (v := ?_) (a' := ?_) (bitsL 8 15) rfl rfl (any_of HT_.out (by kernel_rfl)) (fun _ _ _ h => h) (Or.inl ⟨by rfl, ?_⟩) ?_ ?_; rotate_left
     ·intro w'; go_simp; with_reducible rfl
     rotate_left
     ·simp only [Act.put, List.setIfInBounds_toArray, List.set_cons_zero, List.set_cons_succ, i64_w, i32_w]; rfl
     refine pure_ (i := 4) (N := some 49) (v := ?_) (a' := ?_) (bitsL 8 31) rfl rfl (any_of HT_.out (by kernel_rfl)) (fun _ _ _ h => h) (Or.inl ⟨by rfl, ?_⟩) ?_ ?_; rotate_left
     ·intro w'; go_simp; with_reducible rfl
     rotate_left
     ·simp only [Act.put, List.setIfInBounds_toArray, List.set_cons_zero, List.set_cons_succ, i64_w, i32_w]; rfl
     refine one_ (i := 5) (N := none) (bitsL 8 63) rfl rfl (one_of HT_.out (by kernel_rfl)) (by decide) (fun K hK => ?_); have hs34 : w33.cell? ⟨gb148, 0, none⟩ = some (.int .i64 0) := (blk_cell BK148.out 0).trans rfl; have hfs34 := blk_frozen BK148.out 0; have hs35 : w33.cell? ⟨gb148, 1, none⟩ = some (.string (⟨#[]⟩ : ByteArray)) := (blk_cell BK148.out 1).trans rfl; have hfs35 := blk_frozen BK148.out 1; refine skip_ (w1 := ?_) (by rfl) rfl ?_ ?_; rotate_left
     ·go_simp; rfl
     refine hK.out _ _ trivial (fun hHeld => ?_); clear hK K; refine pure_ (i := 6) (N := some 3) (v := ?_) (a' := ?_) (bitsL 8 127) rfl rfl (any_of HT_.out (by kernel_rfl)) (fun _ _ _ h => h) (Or.inl ⟨by rfl, ?_⟩) ?_ ?_; rotate_left
     ·intro w'; go_simp; with_reducible rfl
     rotate_left
     ·simp only [Act.put, List.setIfInBounds_toArray, List.set_cons_zero, List.set_cons_succ, i64_w, i32_w]; rfl
     refine pure_ (i := 7) (N := some 4) (v := ?_) (a' := ?_) (bitsL 8 255) rfl rfl (any_of HT_.out (by kernel_rfl)) (fun _ _ _ h => h) (Or.inl ⟨by rfl, ?_⟩) ?_ ?_; rotate_left
     ·intro w'; go_simp; with_reducible rfl
     rotate_left
     ·simp only [Act.put, List.setIfInBounds_toArray, List.set_cons_zero, List.set_cons_succ, i64_w, i32_w]; rfl
     refine done_ (done_of HT_.out (by kernel_rfl)) ?_
     try go_wp2
     refine bodyPost_ret (results_ctt rfl _ _ gb148 107 #[.int .i64 3, .string (a0.extract 0 1)] (0, 0) _ rfl (by (with_reducible repeat (first | refine blk_drewN ?_ _ | refine blk_drew ?_ | refine blk_alloc ?_ _)); refine blk_put (cs := #[.int .i64 3, .string (⟨#[]⟩ : ByteArray)]) ?_ 1 _ rfl; (with_reducible repeat (first | refine blk_drewN ?_ _ | refine blk_drew ?_ | refine blk_alloc ?_ _)); exact blk_put (cs := #[.int .i64 0, .string (⟨#[]⟩ : ByteArray)]) bk 0 _ rfl) Tryd.underlying107 rfl (by kernel_rfl)) rfl ?_; exact ⟨ew, bwS⟩
    rw [if_neg c30] at H; exact absurd H (by simp)
   exact absurd c29 (by decide)
  replace c28 := Bool.eq_false_iff.mpr c28; subst c28; rw [if_neg nft] at H; have H' := Aside0.mk H; clear H
  go_enter Tryd.func71, Tryd.ntmps71
  go_wp2_with (first | ((with_reducible refine gate_dst (N := 2) rfl ?_); refine box_event ?hg (N := 2) ?hd (cs := #[.int .i64 0, .string (⟨#[]⟩ : ByteArray)]) (t := 107) ?hr ?_; (case hd => rfl); (case hg => rfl); (case hr => first | (go_simp; done) | (go_simp; rfl)); intro gb148 hg w36 hbox hb; have n0_ := Aside0.mk (below_step bw hb); have n1_ := Aside0.mk (hbox); have n2_ := Aside0.mk ((by rw [hg]; exact (below_size bw) : w.heap.size ≤ gb148)); have n3_ := Aside0.mk ((by rw [hg]; exact (below_size bw) : w.heap.size ≤ gb148)); clear HB; have HB := n0_; have BK148 := n1_; have GW148 := n2_; have GE148 := n3_; clear n0_ n1_ n2_ n3_; clear hb hbox hg; have p3 : 0 ≤ (0 : Int) := (by omega); have q3 : 0 < a0.size := (by have : (0 : Int) < (a0.size : Int) := od; omega); have hx3 : ∀ h : 0 < a0.size, ((a0[0]'h).toNat : Int) = bt a0 0 := bt_at a0 0; clear p3; have qi3 : (0 < (a0.size : Int)) = True := eq_true (od); replace q3 := eq_true q3) | ((with_reducible refine gate_callee (f := 111) rfl ?_); refine goesL_ (some 13) rfl rfl Tryd.func111 (by kernel_rfl) rfl #[.int .u8 (bt a0 0)] rfl am ?_; (with_reducible refine (lex_white.calls (bt a0 0) false _ A4.out).mono ?_); rintro e w' ⟨rfl, ⟨nd, rfl⟩⟩; refine ⟨_, rfl, ?_⟩) | ((with_reducible refine gate_callee (f := 112) rfl ?_); refine goesL_ (some 19) rfl rfl Tryd.func112 (by kernel_rfl) rfl #[.string a0] rfl am ?_; (with_reducible refine (lex_fold.calls a0 false _ A11.out).mono ?_); rintro e w' ⟨rfl, ⟨nd, rfl⟩⟩; refine ⟨_, rfl, ?_⟩) | ((with_reducible refine gate_callee (f := 115) rfl ?_); refine goesL_ (some 44) rfl rfl Tryd.func115 (by kernel_rfl) rfl #[.int .u8 (bt a0 0)] rfl am ?_; (with_reducible refine (lex_sign.calls (bt a0 0) false _ A27.out).mono ?_); rintro e w' ⟨rfl, ⟨nd, rfl⟩⟩; refine ⟨_, rfl, ?_⟩))
  go_loopg [8] k (fun kq v8 w' => ∃ (x8_1 : Int), v8 = .int .i64 x8_1 ∧ Aside0 (lex_next.l0 kq a0 x8_1 = some (r1, r2, r3, r4)) ∧ Aside0 (kq ≤ k) ∧ Aside0 (w'.heap[gb148]? = some (.cells #[.int .i64 0, .string (⟨#[]⟩ : ByteArray)] 107 (0, 0))) ∧ Aside0 (Below w.heap.size w w'))
  case atStart => exact ⟨(0), cl, H', ⟨Nat.le_refl _⟩, ⟨bk⟩, ⟨bwS⟩⟩
  case round =>
   clear H'
   try clear c1
   try clear c2
   try clear c2b0
   try clear c2b1
   try clear p2
   try clear c3
   try clear p3
   try clear q3
   try clear hx3
   try clear qi3
   try clear c5
   try clear c6
   try clear c6b0
   try clear c6b1
   try clear c7
   try clear c11
   try clear c12
   try clear c13
   try clear c13b0
   try clear c13b1
   try clear c18
   try clear c18b0
   try clear c18b1
   try clear c22
   try clear c22b0
   try clear c22b1
   try clear c28
   try clear c29
   try clear c29b0
   try clear c29b1
   try clear c30
   try clear c30b0
   try clear c30b1
   try clear c31
   try clear c31b0
   try clear hcz21_0
   try clear hcz21_1
   try clear hcz26_0
   try clear hcz26_1
   try clear hfz21_0
   try clear hfz21_1
   try clear hfz26_0
   try clear hfz26_1
   try clear p3
   try clear q3
   obtain ⟨x8_1, rfl, HA, HK1, BK148, HB⟩ := hrel; cases gk with
   | zero => exact absurd HA.out (by simp [lex_next.l0])
   | succ k1 =>
    have H := HA.out; clear HA; simp only [lex_next.l0] at H
    by_cases c37 : x8_1 < (a0.size : Int)
    ·rw [if_pos c37] at H; have c37b0 := decide_eq_true c37; clear c37
     by_cases c38 : 0 ≤ x8_1
     ·rw [if_pos c38] at H; have c38b0 := decide_eq_true c38; clear c38; replace H := Option.bind_eq_some_iff.mp H; obtain ⟨t158, A400, H⟩ := H; have A40 := Aside0.mk A400; clear A400
      by_cases c41 : t158 = true
      ·subst c41; rw [if_pos rfl] at H; have H' := Aside0.mk H; clear H; have p39 : 0 ≤ (x8_1 : Int) := od; have q39 : x8_1 < (a0.size : Int) := od; have hx39 := bt_at a0 x8_1; replace p39 := eq_true p39; replace q39 := eq_true q39
       go_wp2_with (first | (go_at_call 116; (with_reducible refine (lex_atomic.calls (bt a0 x8_1) true _ A40.out).mono ?_); rintro e w' ⟨rfl, ⟨nd, rfl⟩⟩))
       go_roundg k1
       case measure => have := HK1.out; omega
       case rel => exact ⟨(wrap64 (x8_1 + 1)), cl, H', ⟨by have := HK1.out; omega⟩, ⟨bk⟩, ⟨bwS⟩⟩
      replace c41 := Bool.eq_false_iff.mpr c41; subst c41; rw [if_neg nft] at H
      by_cases c42 : x8_1 = 0
      ·rw [if_pos c42] at H; have c42b0 := beq_iff_eq.mpr c42; have c42b1 := bne_eq_false_iff_eq.mpr c42; clear c42; simp only [Option.some.injEq, Prod.mk.injEq] at H; obtain ⟨rfl, rfl, rfl, rfl⟩ := H; have p39 : 0 ≤ (x8_1 : Int) := od; have q39 : x8_1 < (a0.size : Int) := od; have hx39 := bt_at a0 x8_1; replace p39 := eq_true p39; replace q39 := eq_true q39
       go_wp2_with (first | (go_at_call 116; (with_reducible refine (lex_atomic.calls (bt a0 x8_1) false _ A40.out).mono ?_); rintro e w' ⟨rfl, ⟨nd, rfl⟩⟩; (try (rw [drewN_self wr]; generalize hq_ : World.drewN wr _ = wr; have n0_ : Aside0 (wr.heap[gb148]? = some (.cells #[.int .i64 0, .string (⟨#[]⟩ : ByteArray)] 107 (0, 0))) := ⟨by rw [← hq_]; exact bk⟩; have n1_ : Aside0 (Below w.heap.size w wr) := ⟨by rw [← hq_]; exact bwS⟩; clear BK148 HB hq_; have BK148 := n0_; have HB := n1_; clear n0_ n1_)); have hcz43_0 : wr.cell? ⟨gb148, 0, none⟩ = some (.int .i64 0) := (blk_cell BK148.out 0).trans rfl; have hcz43_1 : wr.cell? ⟨gb148, 1, none⟩ = some (.string (⟨#[]⟩ : ByteArray)) := (blk_cell BK148.out 1).trans rfl; have hfz43_0 := blk_frozen BK148.out 0; have hfz43_1 := blk_frozen BK148.out 1))
       refine bodyPost_ret (results_ctt rfl _ _ gb148 107 #[.int .i64 0, .string (⟨#[]⟩ : ByteArray)] (0, 0) _ rfl (by (with_reducible repeat (first | refine blk_drewN ?_ _ | refine blk_drew ?_ | refine blk_alloc ?_ _)); refine blk_put (cs := #[.int .i64 0, .string (⟨#[]⟩ : ByteArray)]) ?_ 1 _ rfl; (with_reducible repeat (first | refine blk_drewN ?_ _ | refine blk_drew ?_ | refine blk_alloc ?_ _)); exact blk_put (cs := #[.int .i64 0, .string (⟨#[]⟩ : ByteArray)]) bk 0 _ rfl) Tryd.underlying107 rfl (by kernel_rfl)) rfl ?_; exact ⟨ew, bwS⟩
      rw [if_neg c42] at H; have c42b0 := beq_eq_false_iff_ne.mpr c42; have c42b1 := bne_iff_ne.mpr c42; have c44b0 := eq_true (od : 0 ≤ x8_1)
      by_cases c45 : x8_1 ≤ (a0.size : Int)
      ·rw [if_pos c45] at H; have c45b0 := eq_true c45; have c45b1 := decide_eq_true c45; clear c45; have c46b0 := eq_true (od : 0 ≤ x8_1); have c47b0 := eq_true (od : x8_1 ≤ (a0.size : Int)); simp only [Option.some.injEq, Prod.mk.injEq] at H; obtain ⟨rfl, rfl, rfl, rfl⟩ := H; have p39 : 0 ≤ (x8_1 : Int) := od; have q39 : x8_1 < (a0.size : Int) := od; have hx39 := bt_at a0 x8_1; replace p39 := eq_true p39; replace q39 := eq_true q39
       try go_wp2_with (first | (go_at_call 116; (with_reducible refine (lex_atomic.calls (bt a0 x8_1) false _ A40.out).mono ?_); rintro e w' ⟨rfl, ⟨nd, rfl⟩⟩; (try (rw [drewN_self wr]; generalize hq_ : World.drewN wr _ = wr; have n0_ : Aside0 (wr.heap[gb148]? = some (.cells #[.int .i64 0, .string (⟨#[]⟩ : ByteArray)] 107 (0, 0))) := ⟨by rw [← hq_]; exact bk⟩; have n1_ : Aside0 (Below w.heap.size w wr) := ⟨by rw [← hq_]; exact bwS⟩; clear BK148 HB hq_; have BK148 := n0_; have HB := n1_; clear n0_ n1_))))
       have n0_ := Aside0.mk (blk_drew BK148.out); have n1_ := Aside0.mk (below_drew1 HB.out); clear BK148 HB; have BK148 := n0_; have HB := n1_; clear n0_ n1_; refine start_ (n := 10) (S := fun w' => True) (ds := []) #[false, false, false, false, false, false, false, false, false, false] (by kernel_rfl) rfl rfl trivial (fun hHeld => ?_); refine with_tabW lex_next.tab18 lex_next.bits18 (fun HT_ HW_ => ?_)
       generalize wr.drew = w48 at BK148 HB hHeld ⊢
       refine pure_ (i := 0) (N := some 65) (v := ?_) (a' := ?_) (bitsL 10 1) rfl rfl (any_of HT_.out (by kernel_rfl)) (fun _ _ _ h => h) (Or.inl ⟨by rfl, ?_⟩) ?_ ?_; rotate_left
       ·intro w'; go_simp; with_reducible rfl
       rotate_left
       ·simp only [Act.put, List.setIfInBounds_toArray, List.set_cons_zero, List.set_cons_succ, i64_w, i32_w]; rfl
       refine pure_ (i := 1) (N := some 66) (v := ?_) (a' := ?_) (bitsL 10 3) rfl rfl (any_of HT_.out (by kernel_rfl)) (fun _ _ _ h => h) (Or.inl ⟨by rfl, ?_⟩) ?_ ?_; rotate_left
       ·intro w'; go_simp; with_reducible rfl
       rotate_left
       ·simp only [Act.put, List.setIfInBounds_toArray, List.set_cons_zero, List.set_cons_succ, i64_w, i32_w]; rfl
       refine pure_ (i := 2) (N := some 67) (v := ?_) (a' := ?_) (bitsL 10 7) rfl rfl (any_of HT_.out (by kernel_rfl)) (fun _ _ _ h => h) (Or.inl ⟨by rfl, ?_⟩) ?_ ?_; rotate_left
       ·intro w'; go_simp; with_reducible rfl
       rotate_left
       ·simp only [Act.put, List.setIfInBounds_toArray, List.set_cons_zero, List.set_cons_succ, i64_w, i32_w]; rfl
       refine pure_ (i := 3) (N := some 68) (v := ?_) (a' := ?_) (bitsL 10 15) rfl rfl (any_of HT_.out (by kernel_rfl)) (fun _ _ _ h => h) (Or.inl ⟨by rfl, ?_⟩) ?_ ?_; rotate_left
       ·intro w'; go_simp; with_reducible rfl
       rotate_left
       ·simp only [Act.put, List.setIfInBounds_toArray, List.set_cons_zero, List.set_cons_succ, i64_w, i32_w]; rfl
       refine pure_ (i := 4) (N := some 69) (v := ?_) (a' := ?_) (bitsL 10 31) rfl rfl (any_of HT_.out (by kernel_rfl)) (fun _ _ _ h => h) (Or.inl ⟨by rfl, ?_⟩) ?_ ?_; rotate_left
       ·intro w'; go_simp; with_reducible rfl
       rotate_left
       ·simp only [Act.put, List.setIfInBounds_toArray, List.set_cons_zero, List.set_cons_succ, i64_w, i32_w]; rfl
       refine pure_ (i := 5) (N := some 70) (v := ?_) (a' := ?_) (bitsL 10 63) rfl rfl (any_of HT_.out (by kernel_rfl)) (fun _ _ _ h => h) (Or.inl ⟨by rfl, ?_⟩) ?_ ?_; rotate_left
       ·intro w'; go_simp; with_reducible rfl
       rotate_left
       ·simp only [Act.put, List.setIfInBounds_toArray, List.set_cons_zero, List.set_cons_succ, i64_w, i32_w]; rfl
       refine pure_ (i := 6) (N := some 71) (v := ?_) (a' := ?_) (bitsL 10 127) rfl rfl (any_of HT_.out (by kernel_rfl)) (fun _ _ _ h => h) (Or.inl ⟨by rfl, ?_⟩) ?_ ?_; rotate_left
       ·intro w'; go_simp; with_reducible rfl
       rotate_left
       ·simp only [Act.put, List.setIfInBounds_toArray, List.set_cons_zero, List.set_cons_succ, i64_w, i32_w]; rfl
       refine one_ (i := 7) (N := none) (bitsL 10 255) rfl rfl (one_of HT_.out (by kernel_rfl)) (by decide) (fun K hK => ?_); have hs49 : w48.cell? ⟨gb148, 0, none⟩ = some (.int .i64 0) := (blk_cell BK148.out 0).trans rfl; have hfs49 := blk_frozen BK148.out 0; have hs50 : w48.cell? ⟨gb148, 1, none⟩ = some (.string (⟨#[]⟩ : ByteArray)) := (blk_cell BK148.out 1).trans rfl; have hfs50 := blk_frozen BK148.out 1; refine skip_ (w1 := ?_) (by rfl) rfl ?_ ?_; rotate_left
       ·go_simp; rfl
       refine hK.out _ _ trivial (fun hHeld => ?_); clear hK K; refine pure_ (i := 8) (N := some 3) (v := ?_) (a' := ?_) (bitsL 10 511) rfl rfl (any_of HT_.out (by kernel_rfl)) (fun _ _ _ h => h) (Or.inl ⟨by rfl, ?_⟩) ?_ ?_; rotate_left
       ·intro w'; go_simp; with_reducible rfl
       rotate_left
       ·simp only [Act.put, List.setIfInBounds_toArray, List.set_cons_zero, List.set_cons_succ, i64_w, i32_w]; rfl
       refine pure_ (i := 9) (N := some 4) (v := ?_) (a' := ?_) (bitsL 10 1023) rfl rfl (any_of HT_.out (by kernel_rfl)) (fun _ _ _ h => h) (Or.inl ⟨by rfl, ?_⟩) ?_ ?_; rotate_left
       ·intro w'; go_simp; with_reducible rfl
       rotate_left
       ·simp only [Act.put, List.setIfInBounds_toArray, List.set_cons_zero, List.set_cons_succ, i64_w, i32_w]; rfl
       refine done_ (done_of HT_.out (by kernel_rfl)) ?_
       try go_wp2
       refine bodyPost_ret (results_ctt rfl _ _ gb148 107 #[.int .i64 1, .string (a0.extract 0 (x8_1 : Int).toNat)] (0, 0) _ rfl (by (with_reducible repeat (first | refine blk_drewN ?_ _ | refine blk_drew ?_ | refine blk_alloc ?_ _)); refine blk_put (cs := #[.int .i64 1, .string (⟨#[]⟩ : ByteArray)]) ?_ 1 _ rfl; (with_reducible repeat (first | refine blk_drewN ?_ _ | refine blk_drew ?_ | refine blk_alloc ?_ _)); exact blk_put (cs := #[.int .i64 0, .string (⟨#[]⟩ : ByteArray)]) bk 0 _ rfl) Tryd.underlying107 rfl (by kernel_rfl)) rfl ?_; exact ⟨ew, bwS⟩
      rw [if_neg c45] at H; exact absurd H (by simp)
     rw [if_neg c38] at H; exact absurd H (by simp)
    rw [if_neg c37] at H; have c37b0 := decide_eq_false c37; clear c37
    by_cases c51 : x8_1 = 0
    ·rw [if_pos c51] at H; have c51b0 := beq_iff_eq.mpr c51; have c51b1 := bne_eq_false_iff_eq.mpr c51; clear c51; simp only [Option.some.injEq, Prod.mk.injEq] at H; obtain ⟨rfl, rfl, rfl, rfl⟩ := H; obtain ⟨hcz52_0, hcz52_1, hfz52_0, hfz52_1⟩ := bk2 BK148.out
     go_wp2
     refine bodyPost_ret (results_ctt rfl _ _ gb148 107 #[.int .i64 0, .string (⟨#[]⟩ : ByteArray)] (0, 0) _ rfl (by (with_reducible repeat (first | refine blk_drewN ?_ _ | refine blk_drew ?_ | refine blk_alloc ?_ _)); refine blk_put (cs := #[.int .i64 0, .string (⟨#[]⟩ : ByteArray)]) ?_ 1 _ rfl; (with_reducible repeat (first | refine blk_drewN ?_ _ | refine blk_drew ?_ | refine blk_alloc ?_ _)); exact blk_put (cs := #[.int .i64 0, .string (⟨#[]⟩ : ByteArray)]) bk 0 _ rfl) Tryd.underlying107 rfl (by kernel_rfl)) rfl ?_; exact ⟨ew, bwS⟩
    rw [if_neg c51] at H; have c51b0 := beq_eq_false_iff_ne.mpr c51; have c51b1 := bne_iff_ne.mpr c51
    by_cases c53 : 0 ≤ x8_1
    ·rw [if_pos c53] at H; have c53b0 := eq_true c53; have c53b1 := decide_eq_true c53; clear c53
     by_cases c54 : x8_1 ≤ (a0.size : Int)
     ·rw [if_pos c54] at H; have c54b0 := eq_true c54; have c54b1 := decide_eq_true c54; clear c54; have c55b0 := eq_true (od : 0 ≤ x8_1); have c56b0 := eq_true (od : x8_1 ≤ (a0.size : Int)); simp only [Option.some.injEq, Prod.mk.injEq] at H; obtain ⟨rfl, rfl, rfl, rfl⟩ := H
      try go_wp2
      have n0_ := Aside0.mk (blk_drew BK148.out); have n1_ := Aside0.mk (below_drew1 HB.out); clear BK148 HB; have BK148 := n0_; have HB := n1_; clear n0_ n1_; refine start_ (n := 10) (S := fun w' => True) (ds := []) #[false, false, false, false, false, false, false, false, false, false] (by kernel_rfl) rfl rfl trivial (fun hHeld => ?_); refine with_tabW lex_next.tab18 lex_next.bits18 (fun HT_ HW_ => ?_)
      generalize wr.drew = w57 at BK148 HB hHeld ⊢
      refine pure_ (i := 0) (N := some 65) (v := ?_) (a' := ?_) (bitsL 10 1) rfl rfl (any_of HT_.out (by kernel_rfl)) (fun _ _ _ h => h) (Or.inl ⟨by rfl, ?_⟩) ?_ ?_; rotate_left
      ·intro w'; go_simp; with_reducible rfl
      rotate_left
      ·simp only [Act.put, List.setIfInBounds_toArray, List.set_cons_zero, List.set_cons_succ, i64_w, i32_w]; rfl
      refine pure_ (i := 1) (N := some 66) (v := ?_) (a' := ?_) (bitsL 10 3) rfl rfl (any_of HT_.out (by kernel_rfl)) (fun _ _ _ h => h) (Or.inl ⟨by rfl, ?_⟩) ?_ ?_; rotate_left
      ·intro w'; go_simp; with_reducible rfl
      rotate_left
      ·simp only [Act.put, List.setIfInBounds_toArray, List.set_cons_zero, List.set_cons_succ, i64_w, i32_w]; rfl
      refine pure_ (i := 2) (N := some 67) (v := ?_) (a' := ?_) (bitsL 10 7) rfl rfl (any_of HT_.out (by kernel_rfl)) (fun _ _ _ h => h) (Or.inl ⟨by rfl, ?_⟩) ?_ ?_; rotate_left
      ·intro w'; go_simp; with_reducible rfl
      rotate_left
      ·simp only [Act.put, List.setIfInBounds_toArray, List.set_cons_zero, List.set_cons_succ, i64_w, i32_w]; rfl
      refine pure_ (i := 3) (N := some 68) (v := ?_) (a' := ?_) (bitsL 10 15) rfl rfl (any_of HT_.out (by kernel_rfl)) (fun _ _ _ h => h) (Or.inl ⟨by rfl, ?_⟩) ?_ ?_; rotate_left
      ·intro w'; go_simp; with_reducible rfl
      rotate_left
      ·simp only [Act.put, List.setIfInBounds_toArray, List.set_cons_zero, List.set_cons_succ, i64_w, i32_w]; rfl
      refine pure_ (i := 4) (N := some 69) (v := ?_) (a' := ?_) (bitsL 10 31) rfl rfl (any_of HT_.out (by kernel_rfl)) (fun _ _ _ h => h) (Or.inl ⟨by rfl, ?_⟩) ?_ ?_; rotate_left
      ·intro w'; go_simp; with_reducible rfl
      rotate_left
      ·simp only [Act.put, List.setIfInBounds_toArray, List.set_cons_zero, List.set_cons_succ, i64_w, i32_w]; rfl
      refine pure_ (i := 5) (N := some 70) (v := ?_) (a' := ?_) (bitsL 10 63) rfl rfl (any_of HT_.out (by kernel_rfl)) (fun _ _ _ h => h) (Or.inl ⟨by rfl, ?_⟩) ?_ ?_; rotate_left
      ·intro w'; go_simp; with_reducible rfl
      rotate_left
      ·simp only [Act.put, List.setIfInBounds_toArray, List.set_cons_zero, List.set_cons_succ, i64_w, i32_w]; rfl
      refine pure_ (i := 6) (N := some 71) (v := ?_) (a' := ?_) (bitsL 10 127) rfl rfl (any_of HT_.out (by kernel_rfl)) (fun _ _ _ h => h) (Or.inl ⟨by rfl, ?_⟩) ?_ ?_; rotate_left
      ·intro w'; go_simp; with_reducible rfl
      rotate_left
      ·simp only [Act.put, List.setIfInBounds_toArray, List.set_cons_zero, List.set_cons_succ, i64_w, i32_w]; rfl
      refine one_ (i := 7) (N := none) (bitsL 10 255) rfl rfl (one_of HT_.out (by kernel_rfl)) (by decide) (fun K hK => ?_); have hs58 : w57.cell? ⟨gb148, 0, none⟩ = some (.int .i64 0) := (blk_cell BK148.out 0).trans rfl; have hfs58 := blk_frozen BK148.out 0; have hs59 : w57.cell? ⟨gb148, 1, none⟩ = some (.string (⟨#[]⟩ : ByteArray)) := (blk_cell BK148.out 1).trans rfl; have hfs59 := blk_frozen BK148.out 1; refine skip_ (w1 := ?_) (by rfl) rfl ?_ ?_; rotate_left
      ·go_simp; rfl
      refine hK.out _ _ trivial (fun hHeld => ?_); clear hK K; refine pure_ (i := 8) (N := some 3) (v := ?_) (a' := ?_) (bitsL 10 511) rfl rfl (any_of HT_.out (by kernel_rfl)) (fun _ _ _ h => h) (Or.inl ⟨by rfl, ?_⟩) ?_ ?_; rotate_left
      ·intro w'; go_simp; with_reducible rfl
      rotate_left
      ·simp only [Act.put, List.setIfInBounds_toArray, List.set_cons_zero, List.set_cons_succ, i64_w, i32_w]; rfl
      refine pure_ (i := 9) (N := some 4) (v := ?_) (a' := ?_) (bitsL 10 1023) rfl rfl (any_of HT_.out (by kernel_rfl)) (fun _ _ _ h => h) (Or.inl ⟨by rfl, ?_⟩) ?_ ?_; rotate_left
      ·intro w'; go_simp; with_reducible rfl
      rotate_left
      ·simp only [Act.put, List.setIfInBounds_toArray, List.set_cons_zero, List.set_cons_succ, i64_w, i32_w]; rfl
      refine done_ (done_of HT_.out (by kernel_rfl)) ?_
      try go_wp2
      refine bodyPost_ret (results_ctt rfl _ _ gb148 107 #[.int .i64 1, .string (a0.extract 0 (x8_1 : Int).toNat)] (0, 0) _ rfl (by (with_reducible repeat (first | refine blk_drewN ?_ _ | refine blk_drew ?_ | refine blk_alloc ?_ _)); refine blk_put (cs := #[.int .i64 1, .string (⟨#[]⟩ : ByteArray)]) ?_ 1 _ rfl; (with_reducible repeat (first | refine blk_drewN ?_ _ | refine blk_drew ?_ | refine blk_alloc ?_ _)); exact blk_put (cs := #[.int .i64 0, .string (⟨#[]⟩ : ByteArray)]) bk 0 _ rfl) Tryd.underlying107 rfl (by kernel_rfl)) rfl ?_; exact ⟨ew, bwS⟩
     rw [if_neg c54] at H; exact absurd H (by simp)
    rw [if_neg c53] at H; exact absurd H (by simp)
 rw [if_neg c2] at H; exact absurd H (by simp)

def lex_Scan.l0 : Nat → ByteArray → List (S107) → Option ((List (S107)) × Int)
 | 0, _, _ => none
 | k + 1, x0, x4 => if x0.toList = ([] : List UInt8) then (some (x4, 0)) else ((lex_next.f k x0).bind fun bt159 => (if bt159.2.2.2 = 0 then (if bt159.1 = 0 then (lex_Scan.l0 k bt159.2.2.1 x4) else (if x4.length < 5864062014805 then (lex_Scan.l0 k bt159.2.2.1 (x4 ++ [(⟨bt159.1, bt159.2.1⟩ : S107)])) else (none))) else (some (([] : List (S107)), bt159.2.2.2))))
def lex_Scan.f (k : Nat) (a0 : ByteArray) : Option ((List (S107)) × Int) := lex_Scan.l0 k a0 ([] : List (S107))
set_option maxHeartbeats 8000000 in
set_option maxRecDepth 100000 in
theorem lex_Scan.calls (k : Nat) (a0 : ByteArray) (r1 : List (S107)) (r2 : Int) (w : World) (h : lex_Scan.f k a0 = some (r1, r2)) :
  Calls Tryd.prog 33 #[.string a0] w fun e w' => ∃ v0_ : Value, e = .returned (.tuple #[v0_, .int .i64 r2]) ∧ Kd.R k107 107 w' w.heap.size (fun _ => True) v0_ r1 ∧ Below w.heap.size w w' := by
 have hu107 := Tryd.underlying107; have HB := Aside0.mk (Below.refl w.heap.size w); have H : (lex_Scan.l0 k a0 ([] : List (S107))) = some (r1, r2) := h; clear h; have H' := Aside0.mk H; clear H
 go_enter Tryd.func33, Tryd.ntmps33
 go_wp2
 go_loopg [0, 4] k (fun kq v0 v4 w' => ∃ (x0_1 : ByteArray) (x4_1 : List (S107)), v0 = .string x0_1 ∧ Aside0 (lex_Scan.l0 kq x0_1 x4_1 = some (r1, r2)) ∧ Aside0 (kq ≤ k) ∧ Aside0 (Kd.R k107 107 w' w.heap.size (fun _ => True) v4 x4_1) ∧ Aside0 (Below w.heap.size w w'))
 case atStart => exact ⟨(a0), (([] : List (S107))), cl, H', ⟨Nat.le_refl _⟩, ⟨by first | exact Kd.R_nil _ _ _ _ _ | exact Kd.N_nil _ _ _ _ _ | exact Kd.V_nil _ _ _ _ _ | exact Kd.Q_nil _ _ _ _ _ | exact Kd.S_nil _ _ _ _ _⟩, ⟨bw⟩⟩
 case round =>
  clear H'; obtain ⟨x0_1, x4_1, rfl, HA, HK1, HO_4, HB⟩ := hrel; cases gk with
  | zero => exact absurd HA.out (by simp [lex_Scan.l0])
  | succ k1 =>
   have H := HA.out; clear HA; simp only [lex_Scan.l0] at H
   by_cases c2 : x0_1.toList = ([] : List UInt8)
   ·rw [if_pos c2] at H; have c2b0 := beq_iff_eq.mpr c2; have c2b1 := bne_eq_false_iff_eq.mpr c2; clear c2; simp only [Option.some.injEq, Prod.mk.injEq] at H; obtain ⟨rfl, rfl⟩ := H
    go_wp2
    go_ret2
    exact ⟨_, ew, ra HO_4.out, bw⟩
   rw [if_neg c2] at H; have c2b0 := beq_eq_false_iff_ne.mpr c2; have c2b1 := bne_iff_ne.mpr c2; replace H := Option.bind_eq_some_iff.mp H; obtain ⟨⟨t159, t160, t161, t162⟩, A30, H⟩ := H; replace H : (if t162 = 0 then (if t159 = 0 then (lex_Scan.l0 k1 t161 x4_1) else (if x4_1.length < 5864062014805 then (lex_Scan.l0 k1 t161 (x4_1 ++ [(⟨t159, t160⟩ : S107)])) else (none))) else (some (([] : List (S107)), t162))) = some (r1, r2) := H; have A3 := Aside0.mk A30; clear A30
   by_cases c4 : t162 = 0
   ·rw [if_pos c4] at H; have c4b0 := beq_iff_eq.mpr c4; have c4b1 := bne_eq_false_iff_eq.mpr c4; clear c4
    by_cases c5 : t159 = 0
    ·rw [if_pos c5] at H; have c5b0 := beq_iff_eq.mpr c5; have c5b1 := bne_eq_false_iff_eq.mpr c5; clear c5; have H' := Aside0.mk H; clear H
     go_wp2_with (first | ((with_reducible refine gate_callee (f := 71) rfl ?_); refine goesL_ (some 12) rfl rfl Tryd.func71 (by kernel_rfl) rfl #[.string x0_1] rfl am ?_; (with_reducible refine (lex_next.calls k1 x0_1 t159 t160 t161 t162 _ A3.out).mono ?_); rintro e w6 ⟨rfl, hb⟩; refine ⟨_, rfl, ?_⟩; have n0_ := Aside0.mk (Kd.R_below (ra HO_4.out) hb); have n1_ := Aside0.mk (below_step bw hb); clear HO_4; clear HB; have HO_4 := n0_; have HB := n1_; clear n0_ n1_; (try clear hb); (try clear hb2); (try clear hk); (try clear hi)) | ((with_reducible refine gate_dst (N := 5) rfl ?_); refine box_event ?hg (N := 5) ?hd (cs := #[.int .i64 0, .string (⟨#[]⟩ : ByteArray)]) (t := 107) ?hr ?_; (case hd => rfl); (case hg => rfl); (case hr => first | (go_simp; done) | (go_simp; rfl)); intro gb163 hg w7 hbox hb; have n0_ := Aside0.mk (Kd.R_below (Kd.R_elderB (ra HO_4.out) gb163 (Nat.le_of_eq hg.symm)) hb); have n1_ := Aside0.mk (below_step bw hb); have n2_ := Aside0.mk (hbox); have n3_ := Aside0.mk ((by rw [hg]; exact (below_size bw) : w.heap.size ≤ gb163)); have n4_ := Aside0.mk ((by rw [hg]; exact (below_size bw) : w.heap.size ≤ gb163)); clear HO_4; clear HB; have HO_4 := n0_; have HB := n1_; have BK163 := n2_; have GW163 := n3_; have GE163 := n4_; clear n0_ n1_ n2_ n3_ n4_; clear hb hbox hg; have hcz8_0 : w7.cell? ⟨gb163, 0, none⟩ = some (.int .i64 0) := (blk_cell BK163.out 0).trans rfl; have hcz8_1 : w7.cell? ⟨gb163, 1, none⟩ = some (.string (⟨#[]⟩ : ByteArray)) := (blk_cell BK163.out 1).trans rfl; have hfz8_0 := blk_frozen BK163.out 0; have hfz8_1 := blk_frozen BK163.out 1))
     go_roundg k1
     case measure => have := HK1.out; omega
     case rel => exact ⟨(t161), (x4_1), cl, H', ⟨by have := HK1.out; omega⟩, ⟨ra (Kd.R_mono (Kd.R_far (p := ⟨gb163, 1, none⟩) (Kd.R_far (p := ⟨gb163, 0, none⟩) (Kd.R_mono HO_4.out (fun k_ hk => (⟨hk, hk.2⟩ : _ ∧ k_ ≠ gb163))) (fun _ hk => hk.2) (.int .i64 t159)) (fun _ hk => hk.2) (.string t160)) (fun _ hk => trivial))⟩, ⟨bwS⟩⟩
    rw [if_neg c5] at H; have c5b0 := beq_eq_false_iff_ne.mpr c5; have c5b1 := bne_iff_ne.mpr c5
    by_cases c9 : x4_1.length < 5864062014805
    ·rw [if_pos c9] at H; have LMc9 := Aside0.mk c9; clear c9; obtain ⟨y164, hy164⟩ : ∃ y_ : List (S107), y_ = (x4_1 ++ [(⟨t159, t160⟩ : S107)]) := ⟨_, rfl⟩
     replace H : (lex_Scan.l0 k1 t161 y164) = some (r1, r2) := by first | (rw [hy164]; with_reducible exact H) | (have H2_ := (Option.bind_some _ _).symm.trans H; rw [hy164]; with_reducible exact H2_) | (have H2_ := (Option.bind_some _ _).symm.trans H; with_reducible exact H2_) | with_reducible exact H | (rw [hy164]; exact H) | exact H
     have Ny164 := Aside0.mk hy164; clear hy164; have H' := Aside0.mk H; clear H
     go_wp2_with (first | ((with_reducible refine gate_callee (f := 71) rfl ?_); refine goesL_ (some 12) rfl rfl Tryd.func71 (by kernel_rfl) rfl #[.string x0_1] rfl am ?_; (with_reducible refine (lex_next.calls k1 x0_1 t159 t160 t161 t162 _ A3.out).mono ?_); rintro e w10 ⟨rfl, hb⟩; refine ⟨_, rfl, ?_⟩; have n0_ := Aside0.mk (Kd.R_below (ra HO_4.out) hb); have n1_ := Aside0.mk (below_step bw hb); clear HO_4; clear HB; have HO_4 := n0_; have HB := n1_; clear n0_ n1_; (try clear hb); (try clear hb2); (try clear hk); (try clear hi)) | ((with_reducible refine gate_dst (N := 5) rfl ?_); refine box_event ?hg (N := 5) ?hd (cs := #[.int .i64 0, .string (⟨#[]⟩ : ByteArray)]) (t := 107) ?hr ?_; (case hd => rfl); (case hg => rfl); (case hr => first | (go_simp; done) | (go_simp; rfl)); intro gb163 hg w11 hbox hb; have n0_ := Aside0.mk (Kd.R_below (Kd.R_elderB (ra HO_4.out) gb163 (Nat.le_of_eq hg.symm)) hb); have n1_ := Aside0.mk (below_step bw hb); have n2_ := Aside0.mk (hbox); have n3_ := Aside0.mk ((by rw [hg]; exact (below_size bw) : w.heap.size ≤ gb163)); have n4_ := Aside0.mk ((by rw [hg]; exact (below_size bw) : w.heap.size ≤ gb163)); clear HO_4; clear HB; have HO_4 := n0_; have HB := n1_; have BK163 := n2_; have GW163 := n3_; have GE163 := n4_; clear n0_ n1_ n2_ n3_ n4_; clear hb hbox hg; have hcz12_0 : w11.cell? ⟨gb163, 0, none⟩ = some (.int .i64 0) := (blk_cell BK163.out 0).trans rfl; have hcz12_1 : w11.cell? ⟨gb163, 1, none⟩ = some (.string (⟨#[]⟩ : ByteArray)) := (blk_cell BK163.out 1).trans rfl; have hfz12_0 := blk_frozen BK163.out 0; have hfz12_1 := blk_frozen BK163.out 1) | ((with_reducible refine gate_builtin (b := .append) (xs := #[.tmp 22, .tmp 24]) rfl ?_); at_builtin; refine Kd.R_append k107 (w0 := w) w.heap.size rfl (.tmp 22) (.tmp 24) 60 107 (.agg #[(.int .i64 0), (.string ⟨#[]⟩)]) 24 rfl Tryd.underlying60 info107 rfl (by decide) (by omega) u4 x4_1 (⟨t159, t160⟩ : S107) [.int .i64 t159, .string t160] (fun k_ => k_ ≠ gb163) (fun _ => False) rfl (by first | (go_simp; done) | (go_simp; rfl)) ?aP (fun _ hk => hk.elim) ?aF ?aO ?aB ?aS ?aL ?_; (case aP => exact k107_mkM _ _ _ (⟨t159, t160⟩ : S107)); (case aB => exact bwS); (case aF => exact (fun k_ hk => Kd.freshB (g := gb163) (o := .cells #[.int .i64 t159, .string t160] 107 (0, 0)) (by (with_reducible repeat (first | refine blk_drewN ?_ _ | refine blk_drew ?_ | refine blk_alloc ?_ _)); refine blk_put (cs := #[.int .i64 t159, .string (⟨#[]⟩ : ByteArray)]) ?_ 1 _ rfl; (with_reducible repeat (first | refine blk_drewN ?_ _ | refine blk_drew ?_ | refine blk_alloc ?_ _)); exact blk_put (cs := #[.int .i64 0, .string (⟨#[]⟩ : ByteArray)]) bk 0 _ rfl) k_ hk)); (case aO => exact (ra (Kd.R_mono (Kd.R_far (p := ⟨gb163, 1, none⟩) (Kd.R_far (p := ⟨gb163, 0, none⟩) (Kd.R_mono HO_4.out (fun k_ hk => (⟨hk, hk.2⟩ : _ ∧ k_ ≠ gb163))) (fun _ hk => hk.2) (.int .i64 t159)) (fun _ hk => hk.2) (.string t160)) (fun _ hk => hk.1.2)))); (case aS => exact (below_size bwS)); (case aL => have := LMc9.out; omega); intro v165 w13 ho hb hg hat; rw [← Ny164.out] at ho; have n0_ := Aside0.mk (blk_grown (g := gb163) (o := .cells #[.int .i64 t159, .string t160] 107 (0, 0)) (by (with_reducible repeat (first | refine blk_drewN ?_ _ | refine blk_drew ?_ | refine blk_alloc ?_ _)); refine blk_put (cs := #[.int .i64 t159, .string (⟨#[]⟩ : ByteArray)]) ?_ 1 _ rfl; (with_reducible repeat (first | refine blk_drewN ?_ _ | refine blk_drew ?_ | refine blk_alloc ?_ _)); exact blk_put (cs := #[.int .i64 0, .string (⟨#[]⟩ : ByteArray)]) bk 0 _ rfl) hg (Kd.R_away HO_4.out (fun _ hk => hk.2))); have n1_ := Aside0.mk (hb); have n2_ := Aside0.mk (ho); clear BK163; clear HB; clear HO_4; have BK163 := n0_; have HB := n1_; have HO166 := n2_; clear n0_ n1_ n2_; clear ho hb hg hat))
     go_roundg k1
     case measure => have := HK1.out; omega
     case rel => exact ⟨(t161), (y164), cl, H', ⟨by have := HK1.out; omega⟩, ⟨ra (Kd.R_mono HO166.out (fun _ hk => trivial))⟩, ⟨bwS⟩⟩
    rw [if_neg c9] at H; exact absurd H (by simp)
   rw [if_neg c4] at H; have c4b0 := beq_eq_false_iff_ne.mpr c4; have c4b1 := bne_iff_ne.mpr c4; simp only [Option.some.injEq, Prod.mk.injEq] at H; obtain ⟨rfl, rfl⟩ := H
   go_wp2_with (first | ((with_reducible refine gate_callee (f := 71) rfl ?_); refine goesL_ (some 12) rfl rfl Tryd.func71 (by kernel_rfl) rfl #[.string x0_1] rfl am ?_; (with_reducible refine (lex_next.calls k1 x0_1 t159 t160 t161 t162 _ A3.out).mono ?_); rintro e w14 ⟨rfl, hb⟩; refine ⟨_, rfl, ?_⟩; have n0_ := Aside0.mk (Kd.R_below (ra HO_4.out) hb); have n1_ := Aside0.mk (below_step bw hb); clear HO_4; clear HB; have HO_4 := n0_; have HB := n1_; clear n0_ n1_; (try clear hb); (try clear hb2); (try clear hk); (try clear hi)) | ((with_reducible refine gate_dst (N := 5) rfl ?_); refine box_event ?hg (N := 5) ?hd (cs := #[.int .i64 0, .string (⟨#[]⟩ : ByteArray)]) (t := 107) ?hr ?_; (case hd => rfl); (case hg => rfl); (case hr => first | (go_simp; done) | (go_simp; rfl)); intro gb163 hg w15 hbox hb; have n0_ := Aside0.mk (Kd.R_below (Kd.R_elderB (ra HO_4.out) gb163 (Nat.le_of_eq hg.symm)) hb); have n1_ := Aside0.mk (below_step bw hb); have n2_ := Aside0.mk (hbox); have n3_ := Aside0.mk ((by rw [hg]; exact (below_size bw) : w.heap.size ≤ gb163)); have n4_ := Aside0.mk ((by rw [hg]; exact (below_size bw) : w.heap.size ≤ gb163)); clear HO_4; clear HB; have HO_4 := n0_; have HB := n1_; have BK163 := n2_; have GW163 := n3_; have GE163 := n4_; clear n0_ n1_ n2_ n3_ n4_; clear hb hbox hg; have hcz16_0 : w15.cell? ⟨gb163, 0, none⟩ = some (.int .i64 0) := (blk_cell BK163.out 0).trans rfl; have hcz16_1 : w15.cell? ⟨gb163, 1, none⟩ = some (.string (⟨#[]⟩ : ByteArray)) := (blk_cell BK163.out 1).trans rfl; have hfz16_0 := blk_frozen BK163.out 0; have hfz16_1 := blk_frozen BK163.out 1))
   go_ret2
   exact ⟨_, ew, by first | exact Kd.R_nil _ _ _ _ _ | exact Kd.N_nil _ _ _ _ _ | exact Kd.V_nil _ _ _ _ _ | exact Kd.Q_nil _ _ _ _ _ | exact Kd.S_nil _ _ _ _ _, bwS⟩

end Go.Proofs.YtihabmcaplnbcaaDoor.Fn
set_option linter.unusedVariables false
namespace Go.Proofs.YtihabmcaplnbcaaDoor.Pl
open Go.RowKit Go.Proofs.YtihabmcaplnbcaaDoorW.PrintWords Go.Proofs.YtihabmcaplnbcaaDoor.Fn

/-! Layer 12, the program's: its Scan is the same machine. -/
set_option maxRecDepth 100000 in
theorem lexsign_is (c : UInt8) : lex_sign.f (c.toNat : Int) = some (signB c) := forall_byte (p := fun c => lex_sign.f (c.toNat : Int) = some (signB c)) (by decide +kernel) c
set_option maxRecDepth 100000 in
theorem lexwhite_is (c : UInt8) : lex_white.f (c.toNat : Int) = some (whiteB c) := forall_byte (p := fun c => lex_white.f (c.toNat : Int) = some (whiteB c)) (by decide +kernel) c
set_option maxRecDepth 100000 in
theorem atomic_apart (c : UInt8) : atomic c = true → c ≠ 13 ∧ c ≠ 40 ∧ c ≠ 34 ∧ c ≠ 32 ∧ c ≠ 9 ∧ signB c = false := forall_byte (p := fun c => atomic c = true → c ≠ 13 ∧ c ≠ 40 ∧ c ≠ 34 ∧ c ≠ 32 ∧ c ≠ 9 ∧ signB c = false) (by decide +kernel) c
set_option maxRecDepth 100000 in
theorem white_apart (c : UInt8) : whiteB c = true → c ≠ 13 ∧ c ≠ 40 ∧ c ≠ 34 ∧ atomic c = false ∧ signB c = false := forall_byte (p := fun c => whiteB c = true → c ≠ 13 ∧ c ≠ 40 ∧ c ≠ 34 ∧ atomic c = false ∧ signB c = false) (by decide +kernel) c
theorem fold_not {c : UInt8} (h : c ≠ 13) (l : Bytes) : foldAt (c :: l) = false := by
 cases l with
 | nil => rfl
 | cons b l =>
  cases l with
  | nil => rfl
  | cons e l => simp only [foldAt]; simp [h]
theorem lexfold_is (s : ByteArray) (hs : s.size ≤ 1000000) : lex_fold.f s = some (foldAt (bs s)) := by
 have hlen := bs_length s
 unfold lex_fold.f
 cases hb : bs s with
 | nil =>
  rw [hb] at hlen
  simp only [List.length_nil] at hlen
  rw [if_neg (by omega)]; rfl
 | cons a l =>
  have h0 : (bs s).drop 0 = a :: l := by simpa using hb
  cases l with
  | nil =>
   rw [hb] at hlen
   simp only [List.length_cons, List.length_nil] at hlen
   rw [if_neg (by omega)]; rfl
  | cons b l =>
   have h1 : (bs s).drop 1 = b :: l := (drop_cons h0).2.2.1
   cases l with
   | nil =>
    rw [hb] at hlen
    simp only [List.length_cons, List.length_nil] at hlen
    rw [if_neg (by omega)]; rfl
   | cons c l =>
    have h2 : (bs s).drop 2 = c :: l := (drop_cons h1).2.2.1
    rw [hb] at hlen
    simp only [List.length_cons] at hlen
    have e0 : bt s 0 = (a.toNat : Int) := bt_drop h0
    have e1 : bt s 1 = (b.toNat : Int) := bt_drop h1
    have e2 : bt s 2 = (c.toNat : Int) := bt_drop h2
    rw [if_pos (by omega), if_pos (by omega), e0]
    by_cases a13 : a = 13
    ·rw [if_pos (by rw [a13]; rfl), if_pos (by omega), e1]
     by_cases b10 : b = 10
     ·rw [if_pos (by rw [b10]; rfl), if_pos (by omega), e2, lexwhite_is, a13, b10]
      simp [foldAt]
     rw [if_neg (c := (b.toNat : Int) = 10) (fun h => b10 ((byte_ofNat b 10 (by decide)).1 h))]
     simp [foldAt, b10]
    rw [if_neg (c := (a.toNat : Int) = 13) (fun h => a13 ((byte_ofNat a 13 (by decide)).1 h))]
    simp [foldAt, a13]
def escL : Bytes → Int
 | [] => 9
 | c :: _ => if text c = true then 0 else 3
theorem lexescaped_is (s : ByteArray) : lex_escaped.f s = some (escL (bs s)) := by
 unfold lex_escaped.f
 rw [toList_bs]
 cases hb : bs s with
 | nil => rw [if_pos rfl]; rfl
 | cons c l =>
  have hlen := bs_length s
  rw [hb] at hlen
  simp only [List.length_cons] at hlen
  have e0 : bt s 0 = (c.toNat : Int) := bt_drop (s := s) (i := 0) (by simpa using hb)
  rw [if_neg (by simp), if_pos (by omega), e0, text_is, Option.bind_some]
  show (if text c = true then some (0 : Int) else some 3) = some (if text c = true then 0 else 3)
  cases text c <;> rfl
theorem bs_rest (s : ByteArray) (i : Nat) : bs (s.extract i s.size) = (bs s).drop i := by
 rw [bs_extract, List.take_of_length_le (by rw [bs_length]; exact Nat.le_refl _)]
theorem str_rest (s : ByteArray) (i : Nat) : s.extract i s.size = str ((bs s).drop i) := by
 apply bs_inj
 rw [bs_rest, bs_str]
def QuotSays (s : ByteArray) (k i : Nat) (w l : Bytes) : Prop :=
 (∃ w' r, lex_quoted.l0 k s (numsOf w) (i : Int) = some (2, str w', str r, 0) ∧ r.length ≤ l.length ∧ ∀ acc, scanL acc (.quot w false) l = scanL (acc ++ [(2, w')]) .out r) ∨
 (∃ e, e ≠ 0 ∧ lex_quoted.l0 k s (numsOf w) (i : Int) = some (0, str [], str [], e) ∧ ∀ acc, scanL acc (.quot w false) l = ([], e))
theorem QuotSays.le {s : ByteArray} {k k' i i' : Nat} {w w' l l' : Bytes} (h : QuotSays s k i w l) (hk : lex_quoted.l0 k' s (numsOf w') (i' : Int) = lex_quoted.l0 k s (numsOf w) (i : Int)) (hl : l.length ≤ l'.length) (hs : ∀ acc, scanL acc (.quot w' false) l' = scanL acc (.quot w false) l) : QuotSays s k' i' w' l' := by
 rcases h with ⟨a, r, h1, h2, h3⟩ | ⟨e, h1, h2, h3⟩
 ·exact .inl ⟨a, r, hk.trans h1, by omega, fun acc => (hs acc).trans (h3 acc)⟩
 exact .inr ⟨e, h1, hk.trans h2, fun acc => (hs acc).trans (h3 acc)⟩
theorem lexquoted_l0 (s : ByteArray) (hs : s.size ≤ 1000000) : ∀ (n k i : Nat) (w l : Bytes), l.length ≤ n → n + 1 ≤ k → (bs s).drop i = l → i ≤ (bs s).length → w.length ≤ i → QuotSays s k i w l
 | n, k, i, w, [], hn, hk, hd, hi, hw => by
  obtain ⟨k, rfl⟩ : ∃ j, k = j + 1 := ⟨k - 1, by omega⟩
  have := drop_nil hd
  rw [bs_length] at this hi
  refine .inr ⟨9, by decide, ?_, fun acc => rfl⟩
  rw [lex_quoted.l0, if_neg (by omega)]
  rfl
 | 0, k, i, w, c :: l, hn, hk, hd, hi, hw => by simp at hn
 | n + 1, k, i, w, c :: l, hn, hk, hd, hi, hw => by
  obtain ⟨k, rfl⟩ : ∃ j, k = j + 1 := ⟨k - 1, by omega⟩
  obtain ⟨h1, h2, h3, h4⟩ := drop_cons hd
  have h5 : i < s.size := by rw [bs_length] at h1; exact h1
  simp only [List.length_cons] at hn
  have e1 : wrap64 ((i : Int) + 1) = ((i + 1 : Nat) : Int) := wrap_succ i (by omega)
  have e2 : wrap64 (wrap64 ((i : Int) + 1) + 1) = ((i + 2 : Nat) : Int) := by rw [e1, wrap_succ (i + 1) (by omega)]
  have hl0 : ∀ X : Option (Int × ByteArray × ByteArray × Int), X = lex_quoted.l0 (k + 1) s (numsOf w) (i : Int) → lex_quoted.l0 (k + 1) s (numsOf w) (i : Int) = X := fun X h => h.symm
  have hstart : lex_quoted.l0 (k + 1) s (numsOf w) (i : Int) = (if foldAt (c :: l) = true then (lex_quoted.l0 k s (numsOf w) ((i + 2 : Nat) : Int)) else (if (c.toNat : Int) = 92 then (if escL l = 0 then (lex_quoted.l0 k s (numsOf w ++ [bt s ((i + 1 : Nat) : Int)]) ((i + 2 : Nat) : Int)) else some (0, (⟨#[]⟩ : ByteArray), (⟨#[]⟩ : ByteArray), escL l)) else (if (c.toNat : Int) = 34 then some (2, strOfNums (numsOf w), str l, 0) else (if text c = true then lex_quoted.l0 k s (numsOf w ++ [(c.toNat : Int)]) ((i + 1 : Nat) : Int) else some (0, (⟨#[]⟩ : ByteArray), (⟨#[]⟩ : ByteArray), 3))))) := by
   rw [lex_quoted.l0, if_pos (by omega), if_pos (by omega), if_pos (by omega)]
   simp only [Int.toNat_natCast]
   rw [lexfold_is _ (by simp only [ByteArray.size_extract]; omega), bs_rest, hd, Option.bind_some]
   cases hf : foldAt (c :: l) with
   | true => rw [if_pos rfl, if_pos rfl, e2]
   | false =>
    rw [if_neg (c := false = true) (by decide), if_neg (c := false = true) (by decide), bt_drop hd]
    by_cases c92 : (c.toNat : Int) = 92
    ·rw [if_pos c92, if_pos c92, e1, if_pos (by omega), if_pos (by omega)]
     simp only [Int.toNat_natCast]
     rw [lexescaped_is, bs_rest, h3, Option.bind_some]
     by_cases he : escL l = 0
     ·rw [if_pos he, if_pos he]
      have hne : i + 1 < s.size := by
       rcases Nat.lt_or_ge (i + 1) s.size with q | q
       ·exact q
       have : l = [] := by rw [← h3]; exact List.drop_of_length_le (by rw [bs_length]; exact q)
       rw [this] at he; cases he
      rw [if_pos (by omega), if_pos (by rw [numsOf_length]; omega), wrap_succ (i + 1) (by omega)]
     rw [if_neg he, if_neg he]
    rw [if_neg c92, if_neg c92]
    by_cases c34 : (c.toNat : Int) = 34
    ·rw [if_pos c34, if_pos c34, e1, if_pos (by omega), if_pos (by omega)]
     simp only [Int.toNat_natCast]
     rw [str_rest, h3]
    rw [if_neg c34, if_neg c34, text_is, Option.bind_some]
    cases ht : text c with
    | true => rw [if_pos rfl, if_pos rfl, if_pos (by rw [numsOf_length]; omega), e1]
    | false => rw [if_neg (c := false = true) (by decide), if_neg (c := false = true) (by decide)]
  cases hf : foldAt (c :: l) with
  | true =>
   obtain ⟨t1, t2, t3⟩ := tail_drop hd hf
   rw [hf, if_pos rfl] at hstart
   refine (lexquoted_l0 s hs n k (i + 2) w l.tail (by omega) (by omega) t1 t2 (by omega)).le hstart (by simp; omega) (fun acc => ?_)
   rw [scanL_cons]
   unfold step
   simp only []
   rw [hf, if_pos rfl]
  | false =>
   rw [hf, if_neg (by decide)] at hstart
   by_cases c92 : c = 92
   ·rw [if_pos (by rw [c92]; rfl)] at hstart
    have hst : ∀ acc, scanL acc (.quot w false) (c :: l) = scanL acc (.quot w true) l := by
     intro acc
     rw [scanL_cons]
     unfold step
     simp only []
     rw [hf, if_neg (by decide), if_pos c92]
    cases hl : l with
    | nil =>
     rw [hl] at hstart
     refine .inr ⟨9, by decide, hstart.trans rfl, fun acc => ?_⟩
     rw [← hl, hst, hl]
     rfl
    | cons x l2 =>
     have hdx : (bs s).drop (i + 1) = x :: l2 := by rw [h3, hl]
     obtain ⟨g1, g2, g3, g4⟩ := drop_cons hdx
     have hsx : ∀ acc, scanL acc (.quot w false) (c :: x :: l2) = if text x = true then scanL acc (.quot (w ++ [x]) false) l2 else ([], 3) := by
      intro acc
      rw [← hl, hst, hl, scanL_cons]
      unfold step
      cases text x <;> rfl
     rw [hl] at hstart hn
     simp only [List.length_cons] at hn
     cases ht : text x with
     | true =>
      rw [show escL (x :: l2) = 0 by show (if text x = true then (0 : Int) else 3) = 0; rw [ht]; rfl, if_pos rfl, bt_drop hdx, show numsOf w ++ [(x.toNat : Int)] = numsOf (w ++ [x]) by simp [numsOf]] at hstart
      refine (lexquoted_l0 s hs n k (i + 2) (w ++ [x]) l2 (by omega) (by omega) g3 (by omega) (by simp; omega)).le hstart (by simp; omega) (fun acc => ?_)
      rw [hsx, ht, if_pos rfl]
     | false =>
      rw [show escL (x :: l2) = 3 by show (if text x = true then (0 : Int) else 3) = 3; rw [ht]; rfl, if_neg (by decide)] at hstart
      exact .inr ⟨3, by decide, hstart, fun acc => by rw [hsx, ht]; rfl⟩
   rw [if_neg (c := (c.toNat : Int) = 92) (fun h => c92 ((byte_ofNat c 92 (by decide)).1 h))] at hstart
   by_cases c34 : c = 34
   ·rw [if_pos (by rw [c34]; rfl), strOfNums_of] at hstart
    refine .inl ⟨w, l, hstart, by simp, fun acc => ?_⟩
    rw [scanL_cons]
    unfold step
    simp only []
    rw [hf, if_neg (by decide), if_neg c92, if_pos (by rw [c34]; exact text_34), if_pos c34]
   rw [if_neg (c := (c.toNat : Int) = 34) (fun h => c34 ((byte_ofNat c 34 (by decide)).1 h))] at hstart
   cases ht : text c with
   | true =>
    rw [ht, if_pos rfl, show numsOf w ++ [(c.toNat : Int)] = numsOf (w ++ [c]) by simp [numsOf]] at hstart
    refine (lexquoted_l0 s hs n k (i + 1) (w ++ [c]) l (by omega) (by omega) h3 (by omega) (by simp; omega)).le hstart (by simp) (fun acc => ?_)
    rw [scanL_cons]
    unfold step
    simp only []
    rw [hf, ht, if_neg (by decide), if_neg c92, if_pos rfl, if_neg c34]
   | false =>
    rw [ht, if_neg (by decide)] at hstart
    refine .inr ⟨3, by decide, hstart, fun acc => ?_⟩
    rw [scanL_cons]
    unfold step
    simp only []
    rw [hf, ht, if_neg (by decide), if_neg c92, if_neg (by decide)]

def CommSays (s : ByteArray) (k i m : Nat) (l : Bytes) : Prop :=
 (∃ r, lex_comment.l0 k s (m : Int) (i : Int) = some (str r, 0) ∧ r.length ≤ l.length ∧ ∀ acc, scanL acc (.comm m false) l = scanL acc .out r) ∨
 (∃ e, e ≠ 0 ∧ lex_comment.l0 k s (m : Int) (i : Int) = some (str [], e) ∧ ∀ acc, scanL acc (.comm m false) l = ([], e))
theorem CommSays.le {s : ByteArray} {k k' i i' m m' : Nat} {l l' : Bytes} (h : CommSays s k i m l) (hk : lex_comment.l0 k' s (m' : Int) (i' : Int) = lex_comment.l0 k s (m : Int) (i : Int)) (hl : l.length ≤ l'.length) (hs : ∀ acc, scanL acc (.comm m' false) l' = scanL acc (.comm m false) l) : CommSays s k' i' m' l' := by
 rcases h with ⟨r, h1, h2, h3⟩ | ⟨e, h1, h2, h3⟩
 ·exact .inl ⟨r, hk.trans h1, by omega, fun acc => (hs acc).trans (h3 acc)⟩
 exact .inr ⟨e, h1, hk.trans h2, fun acc => (hs acc).trans (h3 acc)⟩
theorem text_40 : text 40 = true := by decide +kernel
theorem text_41 : text 41 = true := by decide +kernel
theorem lexcomment_l0 (s : ByteArray) (hs : s.size ≤ 1000000) : ∀ (n k i m : Nat) (l : Bytes), l.length ≤ n → 3 * n + 3 ≤ k → (bs s).drop i = l → i ≤ (bs s).length → 1 ≤ m → m ≤ 16 → CommSays s k i m l
 | n, k, i, m, [], hn, hk, hd, hi, hm1, hm2 => by
  obtain ⟨k, rfl⟩ : ∃ j, k = j + 1 := ⟨k - 1, by omega⟩
  have := drop_nil hd
  rw [bs_length] at this hi
  refine .inr ⟨9, by decide, ?_, fun acc => rfl⟩
  rw [lex_comment.l0, if_neg (by omega), if_pos (by omega)]
  rfl
 | 0, k, i, m, c :: l, hn, hk, hd, hi, hm1, hm2 => by simp at hn
 | n + 1, k, i, m, c :: l, hn, hk, hd, hi, hm1, hm2 => by
  obtain ⟨k, rfl⟩ : ∃ j, k = j + 3 := ⟨k - 3, by omega⟩
  obtain ⟨h1, h2, h3, h4⟩ := drop_cons hd
  have h5 : i < s.size := by rw [bs_length] at h1; exact h1
  simp only [List.length_cons] at hn
  have e1 : wrap64 ((i : Int) + 1) = ((i + 1 : Nat) : Int) := wrap_succ i (by omega)
  have e2 : wrap64 (wrap64 ((i : Int) + 1) + 1) = ((i + 2 : Nat) : Int) := by rw [e1, wrap_succ (i + 1) (by omega)]
  have hstart : lex_comment.l0 (k + 3) s (m : Int) (i : Int) = (if foldAt (c :: l) = true then (lex_comment.l0 (k + 2) s (m : Int) ((i + 2 : Nat) : Int)) else (if (c.toNat : Int) = 92 then (if escL l = 0 then (lex_comment.l0 (k + 2) s (m : Int) ((i + 2 : Nat) : Int)) else some ((⟨#[]⟩ : ByteArray), escL l)) else (if (c.toNat : Int) = 40 then lex_comment.j1 (k + 2) s (m : Int) (i : Int) (c.toNat : Int) ((m : Int) == 16) else lex_comment.j1 (k + 2) s (m : Int) (i : Int) (c.toNat : Int) false))) := by
   rw [lex_comment.l0, if_pos (by omega), if_pos (by omega), if_pos (by omega)]
   simp only [Int.toNat_natCast]
   rw [lexfold_is _ (by simp only [ByteArray.size_extract]; omega), bs_rest, hd, Option.bind_some]
   cases hf : foldAt (c :: l) with
   | true => rw [if_pos rfl, if_pos rfl, e2]
   | false =>
    rw [if_neg (c := false = true) (by decide), if_neg (c := false = true) (by decide), bt_drop hd]
    by_cases c92 : (c.toNat : Int) = 92
    ·rw [if_pos c92, if_pos c92, e1, if_pos (by omega), if_pos (by omega)]
     simp only [Int.toNat_natCast]
     rw [lexescaped_is, bs_rest, h3, Option.bind_some, wrap_succ (i + 1) (by omega)]
    rw [if_neg c92, if_neg c92]
  cases hf : foldAt (c :: l) with
  | true =>
   obtain ⟨t1, t2, t3⟩ := tail_drop hd hf
   rw [hf, if_pos rfl] at hstart
   refine (lexcomment_l0 s hs n (k + 2) (i + 2) m l.tail (by omega) (by omega) t1 t2 hm1 hm2).le hstart (by simp; omega) (fun acc => ?_)
   rw [scanL_cons]
   unfold step
   simp only []
   rw [hf, if_pos rfl]
  | false =>
   rw [hf, if_neg (by decide)] at hstart
   by_cases c92 : c = 92
   ·rw [if_pos (by rw [c92]; rfl)] at hstart
    have hst : ∀ acc, scanL acc (.comm m false) (c :: l) = scanL acc (.comm m true) l := by
     intro acc
     rw [scanL_cons]
     unfold step
     simp only []
     rw [hf, if_neg (by decide), if_pos c92]
    cases hl : l with
    | nil =>
     rw [hl] at hstart
     refine .inr ⟨9, by decide, hstart.trans rfl, fun acc => ?_⟩
     rw [← hl, hst, hl]
     rfl
    | cons x l2 =>
     have hdx : (bs s).drop (i + 1) = x :: l2 := by rw [h3, hl]
     obtain ⟨g1, g2, g3, g4⟩ := drop_cons hdx
     have hsx : ∀ acc, scanL acc (.comm m false) (c :: x :: l2) = if text x = true then scanL acc (.comm m false) l2 else ([], 3) := by
      intro acc
      rw [← hl, hst, hl, scanL_cons]
      unfold step
      cases text x <;> rfl
     rw [hl] at hstart hn
     simp only [List.length_cons] at hn
     cases ht : text x with
     | true =>
      rw [show escL (x :: l2) = 0 by show (if text x = true then (0 : Int) else 3) = 0; rw [ht]; rfl, if_pos rfl] at hstart
      refine (lexcomment_l0 s hs n (k + 2) (i + 2) m l2 (by omega) (by omega) g3 (by omega) hm1 hm2).le hstart (by simp; omega) (fun acc => ?_)
      rw [hsx, ht, if_pos rfl]
     | false =>
      rw [show escL (x :: l2) = 3 by show (if text x = true then (0 : Int) else 3) = 3; rw [ht]; rfl, if_neg (by decide)] at hstart
      exact .inr ⟨3, by decide, hstart, fun acc => by rw [hsx, ht]; rfl⟩
   rw [if_neg (c := (c.toNat : Int) = 92) (fun h => c92 ((byte_ofNat c 92 (by decide)).1 h))] at hstart
   have hst : text c = true → ∀ acc, scanL acc (.comm m false) (c :: l) = (match commAfter acc (if c = 40 then m + 1 else if c = 41 then m - 1 else m) l with | .inl (a, t, r) => scanL a t r | .inr e => ([], e)) := by
    intro ht acc
    rw [scanL_cons]
    unfold step
    simp only []
    rw [hf, ht, if_neg (by decide), if_neg c92, if_pos rfl]
    all_goals rfl
   by_cases c40 : c = 40
   ·have ht : text c = true := by rw [c40]; exact text_40
    rw [if_pos (by rw [c40]; rfl), lex_comment.j1] at hstart
    by_cases h16 : m = 16
    ·rw [show ((m : Int) == 16) = true by rw [h16]; rfl, if_pos rfl] at hstart
     refine .inr ⟨1, by decide, hstart, fun acc => ?_⟩
     rw [hst ht, if_pos c40]
     unfold commAfter
     rw [if_pos (by omega)]
    rw [show ((m : Int) == 16) = false by rw [beq_eq_false_iff_ne]; omega, if_neg (by decide), if_pos (by rw [c40]; rfl), e1, wrap_id (by omega) (by omega), show ((m : Int) + 1) = ((m + 1 : Nat) : Int) by omega] at hstart
    refine (lexcomment_l0 s hs n (k + 1) (i + 1) (m + 1) l (by omega) (by omega) h3 (by omega) (by omega) (by omega)).le hstart (by simp) (fun acc => ?_)
    rw [hst ht, if_pos c40]
    unfold commAfter
    rw [if_neg (by omega), if_neg (by omega)]
   rw [if_neg (c := (c.toNat : Int) = 40) (fun h => c40 ((byte_ofNat c 40 (by decide)).1 h)), lex_comment.j1, if_neg (by decide), if_neg (c := (c.toNat : Int) = 40) (fun h => c40 ((byte_ofNat c 40 (by decide)).1 h))] at hstart
   by_cases c41 : c = 41
   ·have ht : text c = true := by rw [c41]; exact text_41
    rw [if_pos (by rw [c41]; rfl), lex_comment.j2] at hstart
    by_cases h1' : m = 1
    ·rw [show ((m : Int) == 1) = true by rw [h1']; rfl, if_pos rfl, e1, if_pos (by omega), if_pos (by omega), if_neg (by decide)] at hstart
     simp only [Int.toNat_natCast] at hstart
     rw [str_rest, h3] at hstart
     refine .inl ⟨l, hstart, by simp, fun acc => ?_⟩
     rw [hst ht, if_neg c40, if_pos c41, h1']
     rfl
    rw [show ((m : Int) == 1) = false by rw [beq_eq_false_iff_ne]; omega, if_neg (by decide), if_pos (by rw [c41]; rfl), e1, wrap_id (by omega) (by omega), show ((m : Int) - 1) = ((m - 1 : Nat) : Int) by omega] at hstart
    refine (lexcomment_l0 s hs n k (i + 1) (m - 1) l (by omega) (by omega) h3 (by omega) (by omega) (by omega)).le hstart (by simp) (fun acc => ?_)
    rw [hst ht, if_neg c40, if_pos c41]
    unfold commAfter
    rw [if_neg (by omega), if_neg (by omega)]
   rw [if_neg (c := (c.toNat : Int) = 41) (fun h => c41 ((byte_ofNat c 41 (by decide)).1 h)), lex_comment.j2, if_neg (by decide), if_neg (c := (c.toNat : Int) = 41) (fun h => c41 ((byte_ofNat c 41 (by decide)).1 h)), text_is, Option.bind_some] at hstart
   cases ht : text c with
   | true =>
    rw [ht, if_pos rfl, e1] at hstart
    refine (lexcomment_l0 s hs n k (i + 1) m l (by omega) (by omega) h3 (by omega) hm1 hm2).le hstart (by simp) (fun acc => ?_)
    rw [hst ht, if_neg c40, if_neg c41]
    unfold commAfter
    rw [if_neg (by omega), if_neg (by omega)]
   | false =>
    rw [ht, if_neg (by decide)] at hstart
    refine .inr ⟨3, by decide, hstart, fun acc => ?_⟩
    rw [scanL_cons]
    unfold step
    simp only []
    rw [hf, ht, if_neg (by decide), if_neg c92, if_neg (by decide)]

theorem lexatom_l0 (s : ByteArray) (hs : s.size ≤ 1000000) : ∀ (n k i : Nat) (l : Bytes), l.length ≤ n → n + 1 ≤ k → (bs s).drop i = l → i ≤ (bs s).length → 1 ≤ i →
  ∃ j, i ≤ j ∧ j ≤ (bs s).length ∧ lex_next.l0 k s (i : Int) = some (1, str ((bs s).take j), str ((bs s).drop j), 0) ∧ ∀ acc, scanL acc (.atom ((bs s).take i)) l = scanL (acc ++ [(1, (bs s).take j)]) .out ((bs s).drop j)
 | n, k, i, [], hn, hk, hd, hi, h1 => by
  obtain ⟨k, rfl⟩ : ∃ j, k = j + 1 := ⟨k - 1, by omega⟩
  have := drop_nil hd
  have hl := bs_length s
  refine ⟨i, Nat.le_refl _, hi, ?_, fun acc => by rw [hd]; rfl⟩
  rw [lex_next.l0, if_neg (by omega), if_neg (by omega), if_pos (by omega), if_pos (by omega)]
  simp only [Int.toNat_natCast]
  rw [str_rest, show s.extract 0 i = str ((bs s).take i) by apply bs_inj; rw [bs_extract, bs_str, List.drop_zero]]
 | 0, k, i, c :: l, hn, hk, hd, hi, h1 => by simp at hn
 | n + 1, k, i, c :: l, hn, hk, hd, hi, h0 => by
  obtain ⟨k, rfl⟩ : ∃ j, k = j + 1 := ⟨k - 1, by omega⟩
  obtain ⟨h1, h2, h3, h4⟩ := drop_cons hd
  have h5 : i < s.size := by rw [bs_length] at h1; exact h1
  simp only [List.length_cons] at hn
  cases ha : atomic c with
  | true =>
   obtain ⟨j, q1, q2, q3, q4⟩ := lexatom_l0 s hs n k (i + 1) l (by omega) (by omega) h3 (by omega) (by omega)
   refine ⟨j, by omega, q2, ?_, fun acc => ?_⟩
   ·rw [lex_next.l0, if_pos (by omega), if_pos (by omega), bt_drop hd, atomic_is, Option.bind_some, ha, if_pos rfl, wrap_succ i (by omega)]
    exact q3
   rw [scanL_cons]
   unfold step
   simp only []
   rw [ha, if_pos rfl, ← h4]
   exact q4 acc
  | false =>
   refine ⟨i, Nat.le_refl _, by omega, ?_, fun acc => ?_⟩
   ·rw [lex_next.l0, if_pos (by omega), if_pos (by omega), bt_drop hd, atomic_is, Option.bind_some, ha, if_neg (by decide), if_neg (by omega), if_pos (by omega)]
    simp only [Int.toNat_natCast]
    rw [str_rest, show s.extract 0 i = str ((bs s).take i) by apply bs_inj; rw [bs_extract, bs_str, List.drop_zero]]
   rw [hd, scanL_cons, scanL_cons]
   unfold step
   simp only []
   rw [ha, if_neg (by decide)]
theorem wrap_01 : wrap64 ((0 : Int) + 1) = ((1 : Nat) : Int) := wrap_succ 0 (by decide)
theorem lexnext_is (s : ByteArray) (hs : s.size ≤ 1000000) (c : UInt8) (l : Bytes) (hb : bs s = c :: l) (k : Nat) (hk : 3 * s.size + 10 ≤ k) :
  (∃ (kd : Int) (t r : Bytes), lex_next.f k s = some (kd, str t, str r, 0) ∧ r.length ≤ l.length ∧ ∀ acc, scanL acc .out (c :: l) = scanL (if kd = 0 then acc else acc ++ [(kd, t)]) .out r) ∨
  (∃ (kd : Int) (t : Bytes) (r : ByteArray) (e : Int), e ≠ 0 ∧ lex_next.f k s = some (kd, str t, r, e) ∧ ∀ acc, scanL acc .out (c :: l) = ([], e)) := by
 have hlen := bs_length s
 rw [hb] at hlen
 simp only [List.length_cons] at hlen
 have hd : (bs s).drop 0 = c :: l := by rw [hb]; rfl
 have hd1 : (bs s).drop 1 = l := (drop_cons hd).2.2.1
 have hbt : bt s 0 = (c.toNat : Int) := bt_drop hd
 have eE : s.extract 1 s.size = str l := by rw [str_rest, hd1]
 have hsc : ∀ acc, scanL acc .out (c :: l) = (match stepOut acc c l with | .inl (a, t, r) => scanL a t r | .inr e => ([], e)) := by
  intro acc
  rw [scanL_cons]
  rfl
 have hout : ∀ (a b d e f g : Bool), foldAt (c :: l) = a → atomic c = b → signB c = f → whiteB c = g → ∀ acc, stepOut acc c l = if a = true then .inl (acc, .out, l.tail) else if b = true then .inl (acc, .atom [c], l) else if c = 34 then .inl (acc, .quot [] false, l) else if c = 40 then .inl (acc, .comm 1 false, l) else if f = true then .inl (acc ++ [(3, [c])], .out, l) else if g = true then .inl (acc, .out, l) else .inr 3 := by
  intro a b d e f g h1 h2 h3 h4 acc
  unfold stepOut
  rw [h1, h2, h3, h4]
 unfold lex_next.f
 rw [if_pos (by omega), hbt, lexwhite_is, Option.bind_some]
 cases hw : whiteB c with
 | true =>
  obtain ⟨n13, n40, n34, na, ns⟩ := white_apart c hw
  have hf := fold_not n13 l
  rw [if_pos rfl, if_pos (by omega), eE]
  refine .inl ⟨0, [], l, rfl, Nat.le_refl _, fun acc => ?_⟩
  rw [hsc, hout false false false false false true hf na ns hw, if_neg (by decide), if_neg (by decide), if_neg n34, if_neg n40, if_neg (by decide), if_pos rfl, if_pos rfl]
 | false =>
  rw [if_neg (by decide), lexfold_is s hs, Option.bind_some, hb]
  cases hf : foldAt (c :: l) with
  | true =>
   obtain ⟨t1, t2, t3⟩ := tail_drop hd hf
   rw [bs_length] at t2
   rw [if_pos rfl, if_pos (by omega), show s.extract 2 s.size = str l.tail by rw [str_rest]; congr 1]
   refine .inl ⟨0, [], l.tail, rfl, by simp, fun acc => ?_⟩
   rw [hsc, hout true _ false false _ _ hf rfl rfl rfl, if_pos rfl, if_pos rfl]
  | false =>
   rw [if_neg (c := false = true) (by decide)]
   by_cases c40 : c = 40
   ·have na : atomic c = false := by rw [c40]; decide +kernel
    rw [if_pos (by rw [c40]; rfl)]
    obtain ⟨k, rfl⟩ : ∃ j, k = j + 2 := ⟨k - 2, by omega⟩
    have hcm : lex_comment.f (k + 2) s = lex_comment.l0 k s ((1 : Nat) : Int) ((1 : Nat) : Int) := by
     unfold lex_comment.f
     rw [lex_comment.l0, if_pos (by omega), if_pos (by decide), if_pos (by omega), show s.extract (0 : Int).toNat s.size = s from extract_all s, lexfold_is s hs, hb, hf, Option.bind_some, if_neg (by decide), hbt, if_neg (c := (c.toNat : Int) = 92) (by rw [c40]; decide), if_pos (by rw [c40]; rfl), show ((0 : Int) == 16) = false from rfl, lex_comment.j1, if_neg (by decide), if_pos (by rw [c40]; rfl), wrap_01]
    rw [hcm]
    have hso : ∀ acc, scanL acc .out (c :: l) = scanL acc (.comm 1 false) l := by
     intro acc
     rw [hsc, hout false false false false _ _ hf na rfl rfl, if_neg (by decide), if_neg (by decide), if_neg (by rw [c40]; decide), if_pos c40]
    rcases lexcomment_l0 s hs l.length k 1 1 l (Nat.le_refl _) (by omega) hd1 (by rw [hb]; simp) (by decide) (by decide) with ⟨r, h1, h2, h3⟩ | ⟨e, h1, h2, h3⟩
    ·rw [h1]
     exact .inl ⟨0, [], r, rfl, h2, fun acc => by rw [hso, h3, if_pos rfl]⟩
    rw [h2]
    exact .inr ⟨0, [], str [], e, h1, rfl, fun acc => by rw [hso, h3]⟩
   rw [if_neg (c := (c.toNat : Int) = 40) (fun h => c40 ((byte_ofNat c 40 (by decide)).1 h))]
   by_cases c34 : c = 34
   ·have na : atomic c = false := by rw [c34]; decide +kernel
    rw [if_pos (by rw [c34]; rfl)]
    have hso : ∀ acc, scanL acc .out (c :: l) = scanL acc (.quot [] false) l := by
     intro acc
     rw [hsc, hout false false false false _ _ hf na rfl rfl, if_neg (by decide), if_neg (by decide), if_pos c34]
    rcases lexquoted_l0 s hs l.length k 1 [] l (Nat.le_refl _) (by omega) hd1 (by rw [hb]; simp) (by simp) with ⟨w', r, h1, h2, h3⟩ | ⟨e, h1, h2, h3⟩
    ·rw [show lex_quoted.f k s = lex_quoted.l0 k s (numsOf []) ((1 : Nat) : Int) from rfl, h1]
     exact .inl ⟨2, w', r, rfl, h2, fun acc => by rw [hso, h3, if_neg (by decide)]⟩
    rw [show lex_quoted.f k s = lex_quoted.l0 k s (numsOf []) ((1 : Nat) : Int) from rfl, h2]
    exact .inr ⟨0, [], str [], e, h1, rfl, fun acc => by rw [hso, h3]⟩
   rw [if_neg (c := (c.toNat : Int) = 34) (fun h => c34 ((byte_ofNat c 34 (by decide)).1 h)), lexsign_is, Option.bind_some]
   cases hsg : signB c with
   | true =>
    have na : atomic c = false := by
     cases ha : atomic c with
     | false => rfl
     | true => have := (atomic_apart c ha).2.2.2.2.2; rw [hsg] at this; cases this
    rw [if_pos rfl, if_pos (by decide), if_pos (by omega), eE, show s.extract 0 1 = str [c] from extract_one (i := 0) hd]
    refine .inl ⟨3, [c], l, rfl, Nat.le_refl _, fun acc => ?_⟩
    rw [hsc, hout false false false false true false hf na hsg hw, if_neg (by decide), if_neg (by decide), if_neg c34, if_neg c40, if_pos rfl, if_neg (by decide)]
   | false =>
    rw [if_neg (c := false = true) (by decide)]
    obtain ⟨k, rfl⟩ : ∃ j, k = j + 1 := ⟨k - 1, by omega⟩
    cases ha : atomic c with
    | false =>
     rw [lex_next.l0, if_pos (by omega), if_pos (by decide), hbt, atomic_is, ha, Option.bind_some, if_neg (by decide), if_pos rfl]
     refine .inr ⟨0, [], _, 3, by decide, rfl, fun acc => ?_⟩
     rw [hsc, hout false false false false false false hf ha hsg hw, if_neg (by decide), if_neg (by decide), if_neg c34, if_neg c40, if_neg (by decide), if_neg (by decide)]
    | true =>
     rw [lex_next.l0, if_pos (by omega), if_pos (by decide), hbt, atomic_is, ha, Option.bind_some, if_pos rfl, wrap_01]
     obtain ⟨j, q1, q2, q3, q4⟩ := lexatom_l0 s hs l.length k 1 l (Nat.le_refl _) (by omega) hd1 (by rw [hb]; simp) (by decide)
     rw [q3]
     refine .inl ⟨1, _, _, rfl, ?_, fun acc => ?_⟩
     ·rw [hb]
      simp only [List.length_drop, List.length_cons]
      omega
     rw [hsc, hout false true false false _ _ hf ha rfl rfl, if_neg (by decide), if_pos rfl, if_neg (by decide), ← q4 acc, hb]
     rfl
def tok142 (t : Tok) : S107 := ⟨t.1, str t.2⟩
theorem lexScan_l0 : ∀ (n k : Nat) (s : ByteArray) (acc : List Tok), s.size ≤ n → s.size ≤ 1000000 → 4 * n + 20 ≤ k → acc.length + s.size ≤ 1000000 →
  lex_Scan.l0 k s (acc.map tok142) = some ((scanL acc .out (bs s)).1.map tok142, (scanL acc .out (bs s)).2)
 | n, k, s, acc, hn, hs, hk, ha => by
  obtain ⟨k, rfl⟩ : ∃ j, k = j + 1 := ⟨k - 1, by omega⟩
  have hlen := bs_length s
  rw [lex_Scan.l0, toList_bs]
  cases hb : bs s with
  | nil => rw [if_pos rfl]; rfl
  | cons c l =>
   rw [hb] at hlen
   simp only [List.length_cons] at hlen
   obtain ⟨n, rfl⟩ : ∃ j, n = j + 1 := ⟨n - 1, by omega⟩
   rw [if_neg (by simp)]
   rcases lexnext_is s hs c l hb k (by omega) with ⟨kd, t, r, h1, h2, h3⟩ | ⟨kd, t, r, e, h0, h1, h3⟩
   ·rw [h1, Option.bind_some, if_pos rfl, h3]
    by_cases hkd : kd = 0
    ·rw [if_pos hkd, if_pos hkd, lexScan_l0 n k (str r) acc (by rw [str_size]; omega) (by rw [str_size]; omega) (by omega) (by rw [str_size]; omega), bs_str]
    rw [if_neg hkd, if_neg hkd, if_pos (by rw [List.length_map]; omega), show acc.map tok142 ++ [(⟨kd, str t⟩ : S107)] = (acc ++ [(kd, t)]).map tok142 by simp [tok142],
     lexScan_l0 n k (str r) (acc ++ [(kd, t)]) (by rw [str_size]; omega) (by rw [str_size]; omega) (by omega) (by rw [str_size]; simp; omega), bs_str]
   rw [h1, Option.bind_some, if_neg h0, h3]
   rfl
theorem lexScan_is (s : ByteArray) (hs : s.size ≤ 1000000) (k : Nat) (hk : 4 * s.size + 20 ≤ k) : lex_Scan.f k s = some ((scanL [] .out (bs s)).1.map tok142, (scanL [] .out (bs s)).2) := by
 have := lexScan_l0 s.size k s [] (Nat.le_refl _) hs hk (by simpa using hs)
 unfold lex_Scan.f
 exact this
end Go.Proofs.YtihabmcaplnbcaaDoor.Pl
set_option linter.unusedVariables false
set_option linter.unusedSimpArgs false
namespace Go.Proofs.YtihabmcaplnbcaaDoor.Pl
open Go.RowKit Go.Proofs.YtihabmcaplnbcaaDoorW.PrintWords Go.Proofs.YtihabmcaplnbcaaDoor.Fn

/-! The reference's glyph functions, as the plain ones. -/
theorem fold_rounds (s : ByteArray) (hs : s.size ≤ 1000000000) : ∀ (l : Bytes) (k i : Nat) (acc : Bytes), (bs s).drop i = l → l.length < k → acc.length ≤ i →
  bulletinref06_Fold.l0 k s (str acc) (i : Int) = some (str (acc ++ fold l)) := by
 intro l
 induction l with
 | nil =>
  intro k i acc h hk ha
  obtain ⟨k, rfl⟩ : ∃ m, k = m + 1 := ⟨k - 1, by omega⟩
  have := drop_nil h
  rw [bs_length] at this
  simp only [bulletinref06_Fold.l0]
  rw [if_neg (by omega)]
  simp [fold]
 | cons c r ih =>
  intro k i acc h hk ha
  obtain ⟨k, rfl⟩ : ∃ m, k = m + 1 := ⟨k - 1, by omega⟩
  obtain ⟨h1, h2, h3, h4⟩ := drop_cons h
  rw [bs_length] at h1
  have hc := byte_lt c
  have hx := extract_one h
  have hw := wrap_succ i (by omega)
  simp only [bulletinref06_Fold.l0]
  rw [if_pos (by omega), if_pos (by omega), bt_drop h, hw]
  have hn := ih k (i + 1) (acc ++ [foldB c]) h3 (by simpa using hk) (by simp; omega)
  have hz : (str acc).size = acc.length := str_size acc
  have hfin : some (str (acc ++ [foldB c] ++ fold r)) = some (str (acc ++ fold (c :: r))) := by simp [fold]
  by_cases a : (c.toNat : Int) ≥ 65
  ·rw [if_pos a]
   by_cases b : (c.toNat : Int) ≤ 90
   ·rw [if_pos b]
    have e : strOfNums [((c.toNat : Int) + 32) % 256] = str [foldB c] := by
     rw [nums_one]
     congr 1
     have hf := foldB_up c ⟨by omega, b⟩
     have : (((c.toNat : Int) + 32) % 256).toNat = (foldB c).toNat := by omega
     rw [this, ofNat_toNat]
    simp only [Option.bind_some]
    rw [e, str_app, if_pos (by rw [hz, str_size]; simp; omega), hn, hfin]
   rw [if_neg b]
   have hf : foldB c = c := by unfold foldB; rw [if_neg (by omega)]
   rw [if_pos (by omega), if_pos (by omega), Int.toNat_natCast, Int.toNat_natCast, hx, str_app, if_pos (by rw [hz, str_size]; simp; omega)]
   rw [hf] at hn hfin
   rw [hn, hfin]
  rw [if_neg a]
  have hf : foldB c = c := by unfold foldB; rw [if_neg (by omega)]
  rw [if_pos (by omega), if_pos (by omega), Int.toNat_natCast, Int.toNat_natCast, hx, str_app, if_pos (by rw [hz, str_size]; simp; omega)]
  rw [hf] at hn hfin
  rw [hn, hfin]
theorem ref_fold (s : ByteArray) (hs : s.size ≤ 1000000000) (k : Nat) (hk : s.size < k) : bulletinref06_Fold.f k s = some (str (fold (bs s))) := by
 unfold bulletinref06_Fold.f
 have := fold_rounds s hs (bs s) k 0 [] (by simp) (by rw [bs_length]; exact hk) (by simp)
 simpa [str] using this

end Go.Proofs.YtihabmcaplnbcaaDoor.Pl
set_option linter.unusedVariables false
namespace Go.Proofs.YtihabmcaplnbcaaDoor.Pl
open Go.RowKit Go.Proofs.YtihabmcaplnbcaaDoorW.PrintWords Go.Proofs.YtihabmcaplnbcaaDoor.Fn

/-! The document's labels, domains, right addresses. -/
def labN (n : Int) : Prop := (97 ≤ n ∧ n ≤ 122) ∨ (65 ≤ n ∧ n ≤ 90) ∨ (48 ≤ n ∧ n ≤ 57) ∨ n = 45
instance (n : Int) : Decidable (labN n) := by unfold labN; infer_instance
set_option maxRecDepth 100000 in
theorem labelled_N (c : UInt8) : labelled c = decide (labN (c.toNat : Int)) := forall_byte (p := fun c => labelled c = decide (labN (c.toNat : Int))) (by decide +kernel) c
theorem reflabel_step (k : Nat) (s : ByteArray) (i n : Int) (h0 : 0 ≤ n) (h1 : n < 256) :
  (if n ≥ 65 then bulletinref13_label.j1 (k + 1) s i n (decide (n ≤ 90)) else bulletinref13_label.j1 (k + 1) s i n false) =
   if labN n ∧ ¬ (n = 45 ∧ (i = 0 ∨ i = wrap64 ((s.size : Int) - 1))) then bulletinref13_label.l0 k s (wrap64 (i + 1)) else some false := by
 generalize hG : bulletinref13_label.l0 k s (wrap64 (i + 1)) = G
 by_cases hup : 65 ≤ n ∧ n ≤ 90
 ·have e : (n + 32) % 256 = n + 32 := by omega
  rw [if_pos hup.1, show decide (n ≤ 90) = true by simpa using hup.2, if_pos ⟨.inr (.inl hup), by omega⟩, bulletinref13_label.j1, if_pos rfl, hG, e]
  by_cases hi : i = 0
  ·rw [if_pos hi, if_pos (by omega), if_pos (by omega)]
  rw [if_neg hi, if_pos (by omega), if_pos (by omega)]
 have hj : (if n ≥ 65 then bulletinref13_label.j1 (k + 1) s i n (decide (n ≤ 90)) else bulletinref13_label.j1 (k + 1) s i n false) = bulletinref13_label.j1 (k + 1) s i n false := by
  by_cases h : n ≥ 65
  ·rw [if_pos h, show decide (n ≤ 90) = false by simp; omega]
  rw [if_neg h]
 rw [hj, bulletinref13_label.j1, if_neg (by decide), hG]
 by_cases hi : i = 0
 ·rw [if_pos hi]
  by_cases a : 97 ≤ n ∧ n ≤ 122
  ·rw [if_pos a.1, if_pos a.2, if_pos ⟨.inl a, by omega⟩]
  by_cases b : 48 ≤ n ∧ n ≤ 57
  ·rw [if_neg (by omega), if_pos b.1, if_pos b.2, if_pos ⟨.inr (.inr (.inl b)), by omega⟩]
  rw [if_neg (c := labN n ∧ _) (by unfold labN; rintro ⟨h | h | h | h, g⟩ <;> first | omega | exact g ⟨h, .inl hi⟩)]
  repeat' split
  all_goals first | rfl | omega
 rw [if_neg hi]
 by_cases a : 97 ≤ n ∧ n ≤ 122
 ·rw [if_pos a.1, if_pos a.2, if_pos ⟨.inl a, by omega⟩]
 by_cases b : 48 ≤ n ∧ n ≤ 57
 ·rw [if_neg (by omega), if_pos b.1, if_pos b.2, if_pos ⟨.inr (.inr (.inl b)), by omega⟩]
 by_cases c : n = 45
 ·by_cases d : i = wrap64 ((s.size : Int) - 1)
  ·rw [if_neg (c := labN n ∧ _) (by rintro ⟨_, g⟩; exact g ⟨c, .inr d⟩)]
   repeat' split
   all_goals first | rfl | omega
  rw [if_pos (c := labN n ∧ _) ⟨.inr (.inr (.inr c)), by rintro ⟨_, g | g⟩; exact hi g; exact d g⟩]
  repeat' split
  all_goals first | rfl | omega
 rw [if_neg (c := labN n ∧ _) (by unfold labN; rintro ⟨h | h | h | h, g⟩ <;> omega)]
 repeat' split
 all_goals first | rfl | omega
def labFrom (m : Nat) : Nat → Bytes → Bool
 | _, [] => true
 | i, c :: l => labelled c && !(c == 45 && (i == 0 || i + 1 == m)) && labFrom m (i + 1) l
theorem reflabel_l0 (s : ByteArray) (hs : s.size ≤ 1000000000) : ∀ (rest : Bytes) (i k : Nat), (bs s).drop i = rest → i ≤ (bs s).length → 2 * rest.length + 1 ≤ k →
  bulletinref13_label.l0 k s (i : Int) = some (labFrom s.size i rest && !(bs s).isEmpty)
 | [], i, k, hd, hi, hk => by
  obtain ⟨k, rfl⟩ : ∃ j, k = j + 1 := ⟨k - 1, by omega⟩
  have := drop_nil hd
  rw [bs_length] at this hi
  rw [bulletinref13_label.l0, if_neg (by omega), toList_bs]
  cases bs s <;> simp [labFrom]
 | c :: rest, i, k, hd, hi, hk => by
  obtain ⟨k, rfl⟩ : ∃ j, k = j + 1 + 1 := ⟨k - 2, by simp at hk; omega⟩
  obtain ⟨h1, h2, h3, h4⟩ := drop_cons hd
  have h5 : i < s.size := by rw [bs_length] at h1; exact h1
  have hc := c.toNat_lt
  simp only [List.length_cons] at hk
  rw [bulletinref13_label.l0, if_pos (by omega), if_pos (by omega), bt_drop hd, reflabel_step k s i (c.toNat : Int) (by omega) (by omega), wrap_id (x := (s.size : Int) - 1) (by omega) (by omega), wrap_succ i (by omega)]
  rw [reflabel_l0 s hs rest (i + 1) k h3 (by omega) (by omega), labFrom, labelled_N]
  have hne : (bs s).isEmpty = false := by
   cases hb : bs s with
   | nil => rw [hb] at h1; simp at h1
   | cons _ _ => rfl
  have e45 : (c = 45) ↔ ((c.toNat : Int) = 45) := by rw [byte_45]
  rw [hne]
  by_cases hl : labN (c.toNat : Int)
  ·by_cases hq : (c.toNat : Int) = 45 ∧ ((i : Int) = 0 ∨ (i : Int) = (s.size : Int) - 1)
   ·rw [if_neg (fun h => h.2 hq)]
    have q1 : (c == 45) = true := by rw [beq_iff_eq, e45]; exact hq.1
    have q2 : (i == 0 || i + 1 == s.size) = true := by
     rcases hq.2 with h | h
     ·simp; left; omega
     simp; right; omega
    rw [q1, q2]
    simp
   rw [if_pos ⟨hl, hq⟩]
   have q : (c == 45 && (i == 0 || i + 1 == s.size)) = false := by
    rw [Bool.eq_false_iff]
    intro h
    simp at h
    exact hq ⟨e45.1 h.1, h.2.imp (fun h => by omega) (fun h => by omega)⟩
   rw [q, decide_eq_true hl]
   simp
  rw [if_neg (fun h => hl h.1), decide_eq_false hl]
  simp
theorem labFrom_all (m : Nat) : ∀ (l : Bytes) (i : Nat), 0 < i → i + l.length = m → labFrom m i l = (l.all labelled && (match l.getLast? with | some b => b != 45 | none => true))
 | [], i, _, _ => rfl
 | [c], i, h0, h => by
  simp only [labFrom, List.length_cons, List.length_nil] at h ⊢
  have : (i == 0) = false := by simp; omega
  have h2 : (i + 1 == m) = true := by simp; omega
  show (labelled c && !(c == 45 && (i == 0 || i + 1 == m)) && true) = ((labelled c && true) && (c != 45))
  rw [this, h2]
  cases labelled c <;> cases hx : (c == 45) <;> simp [bne, hx]
 | c :: d :: l, i, h0, h => by
  rw [labFrom, labFrom_all m (d :: l) (i + 1) (by omega) (by simp at h ⊢; omega)]
  have : (i == 0) = false := by simp; omega
  have h2 : (i + 1 == m) = false := by simp at h ⊢; omega
  rw [this, h2]
  have e : (c :: d :: l).getLast? = (d :: l).getLast? := by simp [List.getLast?_cons_cons]
  rw [e, List.all_cons (a := c)]
  cases labelled c <;> simp
theorem labFrom_label (w : Bytes) : (labFrom w.length 0 w && !w.isEmpty) = labelL w := by
 unfold labelL
 cases w with
 | nil => rfl
 | cons c l =>
  rw [labFrom]
  cases l with
  | nil =>
   show ((labelled c && !(c == 45 && ((0 : Nat) == 0 || 0 + 1 == 1)) && true) && true) = ((labelled c && true) && (c != 45 && c != 45))
   cases labelled c <;> cases hx : (c == 45) <;> simp [bne, hx]
  | cons d l =>
   rw [labFrom_all _ (d :: l) 1 (by omega) (by simp; omega)]
   have e : (c :: d :: l).getLast? = (d :: l).getLast? := by simp [List.getLast?_cons_cons]
   rw [e, List.all_cons (a := c)]
   have hx : ∃ b, (d :: l).getLast? = some b := ⟨(d :: l).getLast (by simp), List.getLast?_eq_some_getLast (by simp)⟩
   obtain ⟨b, hb⟩ := hx
   rw [hb]
   simp only [List.head?_cons, List.isEmpty_cons, Bool.not_false, Bool.and_true, beq_self_eq_true, Bool.true_or]
   have hc : (!(c == 45)) = (c != 45) := rfl
   rw [hc]
   cases labelled c <;> cases (c != 45) <;> cases ((d :: l).all labelled) <;> cases (b != 45) <;> rfl
theorem reflabel_is (s : ByteArray) (hs : s.size ≤ 1000000000) (k : Nat) (hk : 2 * s.size + 1 ≤ k) : bulletinref13_label.f k s = some (labelL (bs s)) := by
 have := reflabel_l0 s hs (bs s) 0 k (by simp) (by omega) (by rw [bs_length]; omega)
 rw [← bs_length s, labFrom_label] at this
 unfold bulletinref13_label.f
 exact this
theorem reffold_is (s : ByteArray) (hs : s.size ≤ 1000000000) (k : Nat) (hk : s.size < k) : bulletinref06_Fold.f k s = some (str (fold (bs s))) := ref_fold s hs k hk
theorem refDomain_l0 (s : ByteArray) (hs : s.size ≤ 1000000) (l : List Bytes) (hl : l.length ≤ 1000000000) (hw : ∀ w ∈ l, w.length ≤ s.size) : ∀ (rest : List Bytes) (i k : Nat) (b : Bool), l.drop i = rest → i ≤ l.length → rest.length + 2 * s.size + 30 ≤ k →
  bulletinref13_Domain.l0 k s (l.map str) b (i : Int) = some (if rest.all labelL = true then (if (b || rest.any (fun w => decide (63 < w.length))) = true then (str [], 2) else (str (fold (bs s)), 0)) else (str [], 130))
 | [], i, k, b, hd, hi, hk => by
  obtain ⟨k, rfl⟩ : ∃ j, k = j + 1 := ⟨k - 1, by omega⟩
  have : l.length ≤ i := by have := congrArg List.length hd; simp at this; omega
  rw [bulletinref13_Domain.l0, if_neg (by rw [List.length_map]; omega)]
  cases b with
  | true => simp; rfl
  | false =>
   rw [if_neg (by decide), reffold_is s (by omega) k (by omega)]
   simp
 | x :: rest, i, k, b, hd, hi, hk => by
  obtain ⟨k, rfl⟩ : ∃ j, k = j + 1 := ⟨k - 1, by omega⟩
  obtain ⟨h1, h2⟩ := dropS_lt hd
  have hx := hw x (List.mem_of_mem_drop (i := i) (by rw [hd]; simp))
  simp only [List.length_cons] at hk
  rw [bulletinref13_Domain.l0, if_pos (by rw [List.length_map]; omega), if_pos (by omega), rdS_drop hd, reflabel_is (str x) (by rw [str_size]; omega) k (by rw [str_size]; omega), bs_str, Option.bind_some, str_size, wrap_succ i (by omega)]
  cases ha : labelL x with
  | false => rw [if_neg (by decide)]; simp [ha]; rfl
  | true =>
   rw [if_pos rfl]
   by_cases hlen : (x.length : Int) > 63
   ·rw [if_pos hlen, refDomain_l0 s hs l hl hw rest (i + 1) k true h2 (by omega) (by omega)]
    have : decide (63 < x.length) = true := by simp; omega
    simp [ha, this]
   rw [if_neg hlen, refDomain_l0 s hs l hl hw rest (i + 1) k b h2 (by omega) (by omega)]
   have : decide (63 < x.length) = false := by simp; omega
   simp [ha, this]
def domTextL (l : Bytes) : ByteArray := if domainL l = 0 then str (fold l) else str []
theorem refDomain_is (s : ByteArray) (hs : s.size ≤ 1000000) (k : Nat) (hk : 3 * s.size + 40 ≤ k) : bulletinref13_Domain.f k s = some (domTextL (bs s), domainL (bs s)) := by
 unfold bulletinref13_Domain.f
 have hl := splitL_length 46 (bs s)
 rw [bs_length] at hl
 rw [refSplit_is s (by omega) k (by omega), Option.bind_some]
 rw [show (0 : Int) = ((0 : Nat) : Int) from rfl, refDomain_l0 s hs (splitL 46 (bs s)) (by omega) (fun w hw => by have := splitL_mem_length 46 _ _ hw; rw [bs_length] at this; exact this) (splitL 46 (bs s)) 0 k _ (by simp) (by omega) (by omega)]
 have e : decide ((s.size : Int) > 253) = decide (253 < (bs s).length) := by
  rw [bs_length]
  congr 1
  exact propext ⟨fun h => by omega, fun h => by omega⟩
 rw [e]
 unfold domTextL domainL domLongL
 by_cases h1 : (splitL 46 (bs s)).all labelL = true
 ·rw [if_pos h1, if_pos h1]
  by_cases h2 : (decide (253 < (bs s).length) || (splitL 46 (bs s)).any fun w => decide (63 < w.length)) = true
  ·rw [if_pos h2, if_pos h2]; simp
  rw [if_neg h2, if_neg h2]; simp
 rw [if_neg h1, if_neg h1]
 simp
theorem refWhy_l0 (a b : ByteArray) (ha : a.size ≤ 1000000) (hb : b.size ≤ 1000000) (e : Int) : ∀ (rest : Bytes) (i k : Nat), (bs a).drop i = rest → i ≤ (bs a).length → rest.length + 2 * a.size + 50 ≤ k →
  bulletinref13_Why.l0 k e (i : Int) a b = some (if rest.all plainB = true then (if e ≠ 0 ∨ 64 < a.size ∨ 254 < (textL (bs a) (bs b)).length then 2 else 0) else 130)
 | [], i, k, hd, hi, hk => by
  obtain ⟨k, rfl⟩ : ∃ j, k = j + 1 := ⟨k - 1, by omega⟩
  have := drop_nil hd
  rw [bs_length] at this hi
  rw [bulletinref13_Why.l0, if_neg (by omega), if_pos (c := ([] : Bytes).all plainB = true) rfl]
  by_cases h3 : e = 0
  ·rw [if_pos h3]
   by_cases h4 : (a.size : Int) > 64
   ·rw [if_pos h4, if_pos (.inr (.inl (by omega)))]
   rw [if_neg h4, refText_is a b ha hb k (by omega)]
   simp only [Option.bind_some]
   rw [str_size]
   by_cases h5 : ((textL (bs a) (bs b)).length : Int) > 254
   ·rw [if_pos h5, if_pos (.inr (.inr (by omega)))]
   rw [if_neg h5, if_neg (by rintro (h | h | h); exact h h3; omega; omega)]
  rw [if_neg h3, if_pos (.inl h3)]
 | c :: rest, i, k, hd, hi, hk => by
  obtain ⟨k, rfl⟩ : ∃ j, k = j + 1 := ⟨k - 1, by omega⟩
  obtain ⟨h1, h2, h3, h4⟩ := drop_cons hd
  have h5 : i < a.size := by rw [bs_length] at h1; exact h1
  simp only [List.length_cons] at hk
  rw [bulletinref13_Why.l0, if_pos (by omega), if_pos (by omega), bt_drop hd]
  by_cases hp : plainB c = true
  ·have hp' := hp
   unfold plainB at hp'
   simp at hp'
   rw [if_neg (by omega), if_neg (by omega), wrap_succ i (by omega), refWhy_l0 a b ha hb e rest (i + 1) k h3 (by omega) (by omega)]
   simp [hp]
  have hp' := hp
  unfold plainB at hp'
  simp at hp'
  have : (c :: rest).all plainB = false := by simp [hp]
  rw [this, if_neg (c := false = true) (by decide)]
  by_cases hc : (c.toNat : Int) < 32
  ·rw [if_pos hc]
  rw [if_neg hc, if_pos (by omega)]
theorem refWhy_is (a b : ByteArray) (ha : a.size ≤ 1000000) (hb : b.size ≤ 1000000) (k : Nat) (hk : 3 * a.size + 3 * b.size + 60 ≤ k) : bulletinref13_Why.f k a b = some (why a b) := by
 unfold bulletinref13_Why.f why
 rw [refDomain_is b hb k (by omega), domain_L, plain_L]
 simp only [Option.bind_some]
 obtain ⟨k, rfl⟩ : ∃ j, k = j + 1 := ⟨k - 1, by omega⟩
 have yes : bulletinref13_Why.j0 (k + 1) (domainL (bs b)) true a b = some 130 := by rw [bulletinref13_Why.j0, if_pos rfl]
 by_cases h1 : domainL (bs b) = 130
 ·rw [if_pos h1, if_pos (.inl h1), yes]
 rw [if_neg h1, toList_bs]
 by_cases h2 : bs a = []
 ·rw [h2, if_pos (.inr (.inl rfl))]
  exact yes
 rw [show (bs a == []) = false by simpa using h2, bulletinref13_Why.j0, if_neg (by decide)]
 have hl0 := refWhy_l0 a b ha hb (domainL (bs b)) (bs a) 0 k (by simp) (by omega) (by rw [bs_length]; omega)
 rw [show ((0 : Nat) : Int) = 0 from rfl] at hl0
 rw [hl0]
 cases hp : (bs a).all plainB with
 | false => rw [if_neg (by decide), if_pos (.inr (.inr rfl))]
 | true => rw [if_pos rfl, if_neg (c := domainL (bs b) = 130 ∨ _) (by simp [h1, h2])]
end Go.Proofs.YtihabmcaplnbcaaDoor.Pl
namespace Go.Proofs.YtihabmcaplnbcaaDoor.Fn
open Go.RowKit Go.Proofs.YtihabmcaplnbcaaDoorW.PrintWords Go.Proofs.YtihabmcaplnbcaaDoorW.PrintLast Go.Proofs.YtihabmcaplnbcaaDoorW.PrintMore
attribute [local go_sem] max2_int min2_int max_two min_two max_three min_three max_four min_four
set_option linter.unusedVariables false
set_option linter.unusedSimpArgs false

mutual
def bulletinref13_Of.l0 : Nat → List (S113) → Int → Int → Option (ByteArray × ByteArray × Int)
 | 0, _, _, _ => none
 | k + 1, x0, x4, x5 => if x5 < (x0.length : Int) then (if 0 ≤ x5 then (if ((rd_T113 x0 x5).f0) = 3 then (if ((rd_T113 x0 x5).f1).toList = ([64] : List UInt8) then (if x4 < 0 then (bulletinref13_Of.l0 k x0 x5 (wrap64 (x5 + 1))) else (bulletinref13_Of.l0 k x0 x4 (wrap64 (x5 + 1)))) else (bulletinref13_Of.l0 k x0 x4 (wrap64 (x5 + 1)))) else (bulletinref13_Of.l0 k x0 x4 (wrap64 (x5 + 1)))) else (none)) else (if x4 < 0 then (some ((⟨#[]⟩ : ByteArray), (⟨#[]⟩ : ByteArray), 130)) else (bulletinref13_Of.l1 k x0 x4 0 (⟨#[]⟩ : ByteArray) (⟨#[]⟩ : ByteArray)))
def bulletinref13_Of.l1 : Nat → List (S113) → Int → Int → ByteArray → ByteArray → Option (ByteArray × ByteArray × Int)
 | 0, _, _, _, _, _ => none
 | k + 1, x0, x4, x7, x321000, x321001 => if x7 < (x0.length : Int) then (if 0 ≤ x7 then (if x7 > x4 then (bulletinref13_Of.j2 k x0 x4 x7 (wrap64 ((wrap64 (x7 - x4)) - 1)) x321000 x321001 ((rd_T113 x0 x7).f0) ((rd_T113 x0 x7).f1)) else (bulletinref13_Of.j2 k x0 x4 x7 x7 x321000 x321001 ((rd_T113 x0 x7).f0) ((rd_T113 x0 x7).f1))) else (none)) else (if (Int.tmod x4 2) = 0 then (bulletinref13_Of.j5 k true x321000 x321001) else (bulletinref13_Of.j5 k ((Int.tmod (wrap64 ((wrap64 ((x0.length : Int) - x4)) - 1)) 2) == 0) x321000 x321001))
def bulletinref13_Of.j2 : Nat → List (S113) → Int → Int → Int → ByteArray → ByteArray → Int → ByteArray → Option (ByteArray × ByteArray × Int)
 | 0, _, _, _, _, _, _, _, _ => none
 | k + 1, x0, x4, x7, x9, x321000, x321001, x323000, x323001 => if x7 = x4 then (bulletinref13_Of.j3 k x0 x4 x7 x9 false x321000 x321001 x323000 x323001) else (if (Int.tmod x9 2) = 1 then (if x323000 = 3 then (bulletinref13_Of.j3 k x0 x4 x7 x9 (x323001.toList != ([46] : List UInt8)) x321000 x321001 x323000 x323001) else (bulletinref13_Of.j3 k x0 x4 x7 x9 true x321000 x321001 x323000 x323001)) else (bulletinref13_Of.j3 k x0 x4 x7 x9 false x321000 x321001 x323000 x323001))
def bulletinref13_Of.j3 : Nat → List (S113) → Int → Int → Int → Bool → ByteArray → ByteArray → Int → ByteArray → Option (ByteArray × ByteArray × Int)
 | 0, _, _, _, _, _, _, _, _, _ => none
 | k + 1, x0, x4, x7, x9, x75, x321000, x321001, x323000, x323001 => if x75 = true then (some ((⟨#[]⟩ : ByteArray), (⟨#[]⟩ : ByteArray), 130)) else (if x7 = x4 then (bulletinref13_Of.j4 k x0 x4 x7 false x321000 x321001 x323000 x323001) else (if (Int.tmod x9 2) = 0 then (if x323000 = 3 then (bulletinref13_Of.j4 k x0 x4 x7 true x321000 x321001 x323000 x323001) else (if x7 > x4 then (bulletinref13_Of.j4 k x0 x4 x7 (x323000 != 1) x321000 x321001 x323000 x323001) else (bulletinref13_Of.j4 k x0 x4 x7 false x321000 x321001 x323000 x323001))) else (bulletinref13_Of.j4 k x0 x4 x7 false x321000 x321001 x323000 x323001)))
def bulletinref13_Of.j4 : Nat → List (S113) → Int → Int → Bool → ByteArray → ByteArray → Int → ByteArray → Option (ByteArray × ByteArray × Int)
 | 0, _, _, _, _, _, _, _, _ => none
 | k + 1, x0, x4, x7, x99, x321000, x321001, x323000, x323001 => if x99 = true then (some ((⟨#[]⟩ : ByteArray), (⟨#[]⟩ : ByteArray), 130)) else (if x7 < x4 then (if x321000.size + x323001.size ≤ 9223372036854775807 then (if x7 > x4 then (if x321001.size + x323001.size ≤ 9223372036854775807 then (bulletinref13_Of.l1 k x0 x4 (wrap64 (x7 + 1)) (x321000 ++ x323001) (x321001 ++ x323001)) else (none)) else (bulletinref13_Of.l1 k x0 x4 (wrap64 (x7 + 1)) (x321000 ++ x323001) x321001)) else (none)) else (if x7 > x4 then (if x321001.size + x323001.size ≤ 9223372036854775807 then (bulletinref13_Of.l1 k x0 x4 (wrap64 (x7 + 1)) x321000 (x321001 ++ x323001)) else (none)) else (bulletinref13_Of.l1 k x0 x4 (wrap64 (x7 + 1)) x321000 x321001)))
def bulletinref13_Of.j5 : Nat → Bool → ByteArray → ByteArray → Option (ByteArray × ByteArray × Int)
 | 0, _, _, _ => none
 | k + 1, x130, x321000, x321001 => if x130 = true then (some ((⟨#[]⟩ : ByteArray), (⟨#[]⟩ : ByteArray), 130)) else ((bulletinref06_Fold.f k x321001).bind fun t323 => ((bulletinref13_Why.f k x321000 t323).bind fun t324 => (if t324 = 0 then (some (x321000, t323, 0)) else (some ((⟨#[]⟩ : ByteArray), (⟨#[]⟩ : ByteArray), t324)))))
end
def bulletinref13_Of.f (k : Nat) (l0 : List (S113)) : Option (ByteArray × ByteArray × Int) := bulletinref13_Of.l0 k l0 (-1) 0
set_option maxHeartbeats 8000000 in
set_option maxRecDepth 100000 in
theorem bulletinref13_Of.calls (k : Nat) (A0 : Option Addr) (c0 : Nat) (l0 : List (S113)) (r1 : ByteArray) (r2 : ByteArray) (r3 : Int) (w : World) (hr0 : Kd.C k113 w A0 l0.length l0) (hc0 : l0.length ≤ c0) (h : bulletinref13_Of.f k l0 = some (r1, r2, r3)) :
  Calls Tryd.prog 39 #[.slice A0 l0.length c0] w fun e w' => e = .returned (.tuple #[.agg #[.string r1, .string r2], .int .i64 r3]) ∧ Below w.heap.size w w' := by
 have hu38 := Tryd.underlying38; have hu113 := Tryd.underlying113; have HR0 := Aside0.mk hr0; have HC0 := Aside0.mk hc0; clear hr0 hc0; have HB := Aside0.mk (Below.refl w.heap.size w); have H : (bulletinref13_Of.l0 k l0 (-1) 0) = some (r1, r2, r3) := h; clear h; have H' := Aside0.mk H; clear H
 go_enter Tryd.func39, Tryd.ntmps39
 go_wp2_with (first | ((with_reducible refine gate_dst (N := 2) rfl ?_); (try (refine gate_guard (by rfl) ?_; dsimp only)); refine box_event ?hg (N := 2) ?hd (cs := #[.string (⟨#[]⟩ : ByteArray), .string (⟨#[]⟩ : ByteArray)]) (t := 38) ?hr ?_; (case hd => rfl); (case hg => rfl); (case hr => first | (go_simp; done) | (go_simp; rfl)); intro gb317 hg w2 hbox hb; have n0_ := Aside0.mk (below_step bw hb); have n1_ := Aside0.mk (hbox); have n2_ := Aside0.mk ((by rw [hg]; exact (below_size bw) : w.heap.size ≤ gb317)); have n3_ := Aside0.mk ((by rw [hg]; exact (below_size bw) : w.heap.size ≤ gb317)); clear HB; have HB := n0_; have BK317 := n1_; have GW317 := n2_; have GE317 := n3_; clear n0_ n1_ n2_ n3_; clear hb hbox hg))
 go_loopg [4, 5] k (fun kq v4 v5 w' => ∃ (x4_1 : Int) (x5_1 : Int), v4 = .int .i64 x4_1 ∧ v5 = .int .i64 x5_1 ∧ Aside0 (bulletinref13_Of.l0 kq l0 x4_1 x5_1 = some (r1, r2, r3)) ∧ Aside0 (kq ≤ k) ∧ Aside0 (w'.heap[gb317]? = some (.cells #[.string (⟨#[]⟩ : ByteArray), .string (⟨#[]⟩ : ByteArray)] 38 (0, 0))) ∧ Aside0 (Below w.heap.size w w'))
 case atStart => exact ⟨((-1)), (0), cl, cl, H', ⟨Nat.le_refl _⟩, ⟨bk⟩, ⟨bwS⟩⟩
 case round =>
  clear H'; obtain ⟨x4_1, x5_1, rfl, rfl, HA, HK1, BK317, HB⟩ := hrel; cases gk with
  | zero => exact absurd HA.out (by simp [bulletinref13_Of.l0])
  | succ k1 =>
   have H := HA.out; clear HA; simp only [bulletinref13_Of.l0] at H
   by_cases c3 : x5_1 < (l0.length : Int)
   ·rw [if_pos c3] at H; have c3b0 := decide_eq_true c3; clear c3
    by_cases c4 : 0 ≤ x5_1
    ·rw [if_pos c4] at H; have c4b0 := decide_eq_true c4; clear c4
     by_cases c5 : ((rd_T113 l0 x5_1).f0) = 3
     ·rw [if_pos c5] at H; have c5b0 := beq_iff_eq.mpr c5; have c5b1 := bne_eq_false_iff_eq.mpr c5; clear c5
      by_cases c6 : ((rd_T113 l0 x5_1).f1).toList = ([64] : List UInt8)
      ·rw [if_pos c6] at H; have c6b0 := beq_iff_eq.mpr c6; have c6b1 := bne_eq_false_iff_eq.mpr c6; clear c6
       by_cases c7 : x4_1 < 0
       ·rw [if_pos c7] at H; have c7b0 := decide_eq_true c7; clear c7; have H' := Aside0.mk H; clear H; have p318 : 0 ≤ (x5_1 : Int) := od; have q318 : x5_1 < (l0.length : Int) := od; obtain ⟨ad318, e318, hx318_0, hx318_1⟩ := at_T113 HR0.out x5_1 p318 q318; cases e318; replace hx318_0 := (HB.out.cell (World.block_lt_of_cell? w _ hx318_0)).trans hx318_0; replace hx318_1 := (HB.out.cell (World.block_lt_of_cell? w _ hx318_1)).trans hx318_1; replace p318 := eq_true p318; replace q318 := eq_true q318; have p319 : 0 ≤ (x5_1 : Int) := od; have q319 : x5_1 < (l0.length : Int) := od; obtain ⟨ad319, e319, hx319_0, hx319_1⟩ := at_T113 HR0.out x5_1 p319 q319; obtain rfl : ad318 = ad319 := (by injection e319)
        replace hx319_0 := (HB.out.cell (World.block_lt_of_cell? w _ hx319_0)).trans hx319_0; replace hx319_1 := (HB.out.cell (World.block_lt_of_cell? w _ hx319_1)).trans hx319_1; replace p319 := eq_true p319; replace q319 := eq_true q319
        as_aux_lemma =>
         go_wp2
         go_roundg k1
         case measure => have := HK1.out; omega
         case rel => exact ⟨(x5_1), (wrap64 (x5_1 + 1)), cl, cl, H', ⟨by have := HK1.out; omega⟩, ⟨bk⟩, ⟨bwS⟩⟩
       rw [if_neg c7] at H; have c7b0 := decide_eq_false c7; clear c7; have H' := Aside0.mk H; clear H; have p318 : 0 ≤ (x5_1 : Int) := od; have q318 : x5_1 < (l0.length : Int) := od; obtain ⟨ad318, e318, hx318_0, hx318_1⟩ := at_T113 HR0.out x5_1 p318 q318; cases e318; replace hx318_0 := (HB.out.cell (World.block_lt_of_cell? w _ hx318_0)).trans hx318_0; replace hx318_1 := (HB.out.cell (World.block_lt_of_cell? w _ hx318_1)).trans hx318_1; replace p318 := eq_true p318; replace q318 := eq_true q318; have p319 : 0 ≤ (x5_1 : Int) := od; have q319 : x5_1 < (l0.length : Int) := od; obtain ⟨ad319, e319, hx319_0, hx319_1⟩ := at_T113 HR0.out x5_1 p319 q319; obtain rfl : ad318 = ad319 := (by injection e319)
       replace hx319_0 := (HB.out.cell (World.block_lt_of_cell? w _ hx319_0)).trans hx319_0; replace hx319_1 := (HB.out.cell (World.block_lt_of_cell? w _ hx319_1)).trans hx319_1; replace p319 := eq_true p319; replace q319 := eq_true q319
       as_aux_lemma =>
        go_wp2
        go_roundg k1
        case measure => have := HK1.out; omega
        case rel => exact ⟨(x4_1), (wrap64 (x5_1 + 1)), cl, cl, H', ⟨by have := HK1.out; omega⟩, ⟨bk⟩, ⟨bwS⟩⟩
      rw [if_neg c6] at H; have c6b0 := beq_eq_false_iff_ne.mpr c6; have c6b1 := bne_iff_ne.mpr c6; have H' := Aside0.mk H; clear H; have p318 : 0 ≤ (x5_1 : Int) := od; have q318 : x5_1 < (l0.length : Int) := od; obtain ⟨ad318, e318, hx318_0, hx318_1⟩ := at_T113 HR0.out x5_1 p318 q318; cases e318; replace hx318_0 := (HB.out.cell (World.block_lt_of_cell? w _ hx318_0)).trans hx318_0; replace hx318_1 := (HB.out.cell (World.block_lt_of_cell? w _ hx318_1)).trans hx318_1; replace p318 := eq_true p318; replace q318 := eq_true q318; have p319 : 0 ≤ (x5_1 : Int) := od; have q319 : x5_1 < (l0.length : Int) := od; obtain ⟨ad319, e319, hx319_0, hx319_1⟩ := at_T113 HR0.out x5_1 p319 q319; obtain rfl : ad318 = ad319 := (by injection e319)
      replace hx319_0 := (HB.out.cell (World.block_lt_of_cell? w _ hx319_0)).trans hx319_0; replace hx319_1 := (HB.out.cell (World.block_lt_of_cell? w _ hx319_1)).trans hx319_1; replace p319 := eq_true p319; replace q319 := eq_true q319
      as_aux_lemma =>
       go_wp2
       go_roundg k1
       case measure => have := HK1.out; omega
       case rel => exact ⟨(x4_1), (wrap64 (x5_1 + 1)), cl, cl, H', ⟨by have := HK1.out; omega⟩, ⟨bk⟩, ⟨bwS⟩⟩
     rw [if_neg c5] at H; have c5b0 := beq_eq_false_iff_ne.mpr c5; have c5b1 := bne_iff_ne.mpr c5; have H' := Aside0.mk H; clear H; have p318 : 0 ≤ (x5_1 : Int) := od; have q318 : x5_1 < (l0.length : Int) := od; obtain ⟨ad318, e318, hx318_0, hx318_1⟩ := at_T113 HR0.out x5_1 p318 q318; cases e318; replace hx318_0 := (HB.out.cell (World.block_lt_of_cell? w _ hx318_0)).trans hx318_0; replace hx318_1 := (HB.out.cell (World.block_lt_of_cell? w _ hx318_1)).trans hx318_1; replace p318 := eq_true p318; replace q318 := eq_true q318
     as_aux_lemma =>
      go_wp2
      go_roundg k1
      case measure => have := HK1.out; omega
      case rel => exact ⟨(x4_1), (wrap64 (x5_1 + 1)), cl, cl, H', ⟨by have := HK1.out; omega⟩, ⟨bk⟩, ⟨bwS⟩⟩
    rw [if_neg c4] at H; exact absurd H (by simp)
   rw [if_neg c3] at H; have c3b0 := decide_eq_false c3; clear c3
   by_cases c8 : x4_1 < 0
   ·rw [if_pos c8] at H; have c8b0 := decide_eq_true c8; clear c8; simp only [Option.some.injEq, Prod.mk.injEq] at H; obtain ⟨rfl, rfl, rfl⟩ := H; obtain ⟨hcz9_0, hcz9_1, hfz9_0, hfz9_1⟩ := bk2 BK317.out
    as_aux_lemma =>
     go_wp2
     refine bodyPost_ret (results_ct rfl _ _ gb317 38 #[.string (⟨#[]⟩ : ByteArray), .string (⟨#[]⟩ : ByteArray)] (0, 0) _ rfl (by (with_reducible repeat (first | refine blk_drewN ?_ _ | refine blk_drew ?_ | refine blk_alloc ?_ _)); refine blk_put (cs := #[.string (⟨#[]⟩ : ByteArray), .string (⟨#[]⟩ : ByteArray)]) ?_ 1 _ rfl; (with_reducible repeat (first | refine blk_drewN ?_ _ | refine blk_drew ?_ | refine blk_alloc ?_ _)); exact blk_put (cs := #[.string (⟨#[]⟩ : ByteArray), .string (⟨#[]⟩ : ByteArray)]) bk 0 _ rfl) Tryd.underlying38 rfl (by kernel_rfl)) rfl ?_; exact ⟨ew, bwS⟩
   rw [if_neg c8] at H; have c8b0 := decide_eq_false c8; clear c8; have H' := Aside0.mk H; clear H
   as_aux_lemma =>
    go_wp2_with (first | ((with_reducible refine gate_dst (N := 6) rfl ?_); (try (refine gate_guard (by rfl) ?_; dsimp only)); refine box_event ?hg (N := 6) ?hd (cs := #[.string (⟨#[]⟩ : ByteArray), .string (⟨#[]⟩ : ByteArray)]) (t := 38) ?hr ?_; (case hd => rfl); (case hg => rfl); (case hr => first | (go_simp; done) | (go_simp; rfl)); intro gb320 hg w10 hbox hb; have n0_ := Aside0.mk (blk_below (g := gb317) (o := .cells #[.string (⟨#[]⟩ : ByteArray), .string (⟨#[]⟩ : ByteArray)] 38 (0, 0)) bk hb); have n1_ := Aside0.mk (below_step bwS hb); have n2_ := Aside0.mk (hbox); have n3_ := Aside0.mk ((by rw [hg]; exact (below_size bwS) : w.heap.size ≤ gb320)); have n4_ := Aside0.mk ((by rw [hg]; exact (below_size bwS) : w.heap.size ≤ gb320)); have n5_ := Aside0.mk ((by rw [hg]; exact Nat.ne_of_lt (blk_lt (g := gb317) (o := .cells #[.string (⟨#[]⟩ : ByteArray), .string (⟨#[]⟩ : ByteArray)] 38 (0, 0)) bk) : gb317 ≠ gb320)); have n6_ := Aside0.mk ((by rw [hg]; exact Nat.ne_of_gt (blk_lt (g := gb317) (o := .cells #[.string (⟨#[]⟩ : ByteArray), .string (⟨#[]⟩ : ByteArray)] 38 (0, 0)) bk) : gb320 ≠ gb317)); clear BK317; clear HB; have BK317 := n0_; have HB := n1_; have BK320 := n2_; have GW320 := n3_; have GE320 := n4_; have NB317_320 := n5_; have NB320_317 := n6_; clear n0_ n1_ n2_ n3_ n4_ n5_ n6_; clear hb hbox hg; have hnb11 := NB320_317.out; have hnc11 := NB317_320.out; have hcz12_0 : w10.cell? ⟨gb320, 0, none⟩ = some (.string (⟨#[]⟩ : ByteArray)) := (blk_cell BK320.out 0).trans rfl; have hcz12_1 : w10.cell? ⟨gb320, 1, none⟩ = some (.string (⟨#[]⟩ : ByteArray)) := (blk_cell BK320.out 1).trans rfl; have hfz12_0 := blk_frozen BK320.out 0; have hfz12_1 := blk_frozen BK320.out 1))
    go_loopg [7] k1 (fun kq v7 w' => ∃ (x7_2 : Int) (x318000_2 : ByteArray) (x318001_2 : ByteArray) (x321000_2 : ByteArray) (x321001_2 : ByteArray), v7 = .int .i64 x7_2 ∧ Aside0 (bulletinref13_Of.l1 kq l0 x4_1 x7_2 x321000_2 x321001_2 = some (r1, r2, r3)) ∧ Aside0 (kq ≤ k1) ∧ Aside0 (w'.heap[gb317]? = some (.cells #[.string x318000_2, .string x318001_2] 38 (0, 0))) ∧ Aside0 (w'.heap[gb320]? = some (.cells #[.string x321000_2, .string x321001_2] 38 (0, 0))) ∧ Aside0 (Below w.heap.size w w'))
    case atStart => exact ⟨(0), ((⟨#[]⟩ : ByteArray)), ((⟨#[]⟩ : ByteArray)), ((⟨#[]⟩ : ByteArray)), ((⟨#[]⟩ : ByteArray)), cl, H', ⟨Nat.le_refl _⟩, ⟨by (with_reducible repeat (first | refine blk_drewN ?_ _ | refine blk_drew ?_ | refine blk_alloc ?_ _)); refine blk_far ?_ NB317_320.out _; (with_reducible repeat (first | refine blk_drewN ?_ _ | refine blk_drew ?_ | refine blk_alloc ?_ _)); refine blk_far ?_ NB317_320.out _; (with_reducible repeat (first | refine blk_drewN ?_ _ | refine blk_drew ?_ | refine blk_alloc ?_ _)); exact BK317.out⟩, ⟨by (with_reducible repeat (first | refine blk_drewN ?_ _ | refine blk_drew ?_ | refine blk_alloc ?_ _)); refine blk_put (cs := #[.string (⟨#[]⟩ : ByteArray), .string (⟨#[]⟩ : ByteArray)]) ?_ 1 _ rfl; (with_reducible repeat (first | refine blk_drewN ?_ _ | refine blk_drew ?_ | refine blk_alloc ?_ _)); exact blk_put (cs := #[.string (⟨#[]⟩ : ByteArray), .string (⟨#[]⟩ : ByteArray)]) bk 0 _ rfl⟩, ⟨bwS⟩⟩
    case round =>
     clear H' c3b0 c8b0 hcz12_0 hcz12_1 hfz12_0 hfz12_1; obtain ⟨x7_2, x318000_2, x318001_2, x321000_2, x321001_2, rfl, HA, HK2, BK317, BK320, HB⟩ := hrel; cases gk with
     | zero => exact absurd HA.out (by simp [bulletinref13_Of.l1])
     | succ k2 =>
      have H := HA.out; clear HA; simp only [bulletinref13_Of.l1] at H
      by_cases c13 : x7_2 < (l0.length : Int)
      ·rw [if_pos c13] at H; have c13b0 := decide_eq_true c13; clear c13
       by_cases c14 : 0 ≤ x7_2
       ·rw [if_pos c14] at H; have c14b0 := decide_eq_true c14; clear c14; have HC15 := Aside0.mk H; clear H; have p321 : 0 ≤ (x7_2 : Int) := od; have q321 : x7_2 < (l0.length : Int) := od; obtain ⟨ad321, e321, hx321_0, hx321_1⟩ := at_T113 HR0.out x7_2 p321 q321; cases e321; replace hx321_0 := (HB.out.cell (World.block_lt_of_cell? w _ hx321_0)).trans hx321_0; replace hx321_1 := (HB.out.cell (World.block_lt_of_cell? w _ hx321_1)).trans hx321_1; replace p321 := eq_true p321; replace q321 := eq_true q321
        go_upto_if 53 with (first | ((with_reducible refine gate_dst (N := 8) rfl ?_); (try (refine gate_guard (by rfl) ?_; dsimp only)); refine box_event ?hg (N := 8) ?hd (cs := #[.int .i64 0, .string (⟨#[]⟩ : ByteArray)]) (t := 113) ?hr ?_; (case hd => rfl); (case hg => rfl); (case hr => first | (go_simp; done) | (go_simp; rfl)); intro gb322 hg w16 hbox hb; have n0_ := Aside0.mk (blk_below (g := gb317) (o := .cells #[.string x318000_2, .string x318001_2] 38 (0, 0)) bk hb); have n1_ := Aside0.mk (blk_below (g := gb320) (o := .cells #[.string x321000_2, .string x321001_2] 38 (0, 0)) bk hb); have n2_ := Aside0.mk (below_step bwS hb); have n3_ := Aside0.mk (hbox); have n4_ := Aside0.mk ((by rw [hg]; exact (below_size bwS) : w.heap.size ≤ gb322)); have n5_ := Aside0.mk ((by rw [hg]; exact (below_size bwS) : w.heap.size ≤ gb322)); have n6_ := Aside0.mk ((by rw [hg]; exact Nat.ne_of_lt (blk_lt (g := gb317) (o := .cells #[.string x318000_2, .string x318001_2] 38 (0, 0)) bk) : gb317 ≠ gb322)); have n7_ := Aside0.mk ((by rw [hg]; exact Nat.ne_of_gt (blk_lt (g := gb317) (o := .cells #[.string x318000_2, .string x318001_2] 38 (0, 0)) bk) : gb322 ≠ gb317)); have n8_ := Aside0.mk ((by rw [hg]; exact Nat.ne_of_lt (blk_lt (g := gb320) (o := .cells #[.string x321000_2, .string x321001_2] 38 (0, 0)) bk) : gb320 ≠ gb322)); have n9_ := Aside0.mk ((by rw [hg]; exact Nat.ne_of_gt (blk_lt (g := gb320) (o := .cells #[.string x321000_2, .string x321001_2] 38 (0, 0)) bk) : gb322 ≠ gb320)); clear BK317; clear BK320; clear HB; have BK317 := n0_; have BK320 := n1_; have HB := n2_; have BK322 := n3_; have GW322 := n4_; have GE322 := n5_; have NB317_322 := n6_; have NB322_317 := n7_; have NB320_322 := n8_; have NB322_320 := n9_; clear n0_ n1_ n2_ n3_ n4_ n5_ n6_ n7_ n8_ n9_; clear hb hbox hg; have hnb17 := NB322_317.out; have hnc17 := NB317_322.out; have hnb18 := NB322_320.out; have hnc18 := NB320_322.out; have hcz19_0 : w16.cell? ⟨gb322, 0, none⟩ = some (.int .i64 0) := (blk_cell BK322.out 0).trans rfl; have hcz19_1 : w16.cell? ⟨gb322, 1, none⟩ = some (.string (⟨#[]⟩ : ByteArray)) := (blk_cell BK322.out 1).trans rfl; have hfz19_0 := blk_frozen BK322.out 0; have hfz19_1 := blk_frozen BK322.out 1))
        (try simp only [Act.put, List.setIfInBounds_toArray, List.set_cons_zero, List.set_cons_succ])
        go_cut [9] (fun v9 wc => ∃ (kq : Nat) (x9_14 : Int), v9 = .int .i64 x9_14 ∧ Aside0 (bulletinref13_Of.j2 kq l0 x4_1 x7_2 x9_14 x321000_2 x321001_2 ((rd_T113 l0 x7_2).f0) ((rd_T113 l0 x7_2).f1) = some (r1, r2, r3)) ∧ Aside0 (kq ≤ k2) ∧ Aside0 (wc.heap[gb317]? = some (.cells #[.string x318000_2, .string x318001_2] 38 (0, 0))) ∧ Aside0 (wc.heap[gb320]? = some (.cells #[.string x321000_2, .string x321001_2] 38 (0, 0))) ∧ Aside0 (wc.heap[gb322]? = some (.cells #[.int .i64 ((rd_T113 l0 x7_2).f0), .string ((rd_T113 l0 x7_2).f1)] 113 (0, 0))) ∧ Aside0 (Below w.heap.size w wc))
        case first =>
         have H := HC15.out; clear HC15
         by_cases c20 : x7_2 > x4_1
         ·rw [if_pos c20] at H; have c20b0 : decide (x4_1 < x7_2) = true := decide_eq_true c20; clear c20
          (first | rw [c20b0] | (simp only [i64_w, i32_w]; rw [c20b0]) | skip)
          have H' := Aside0.mk H; clear H
          as_aux_lemma =>
           go_wp2
           go_meet
           case rel => exact ⟨_, (wrap64 ((wrap64 (x7_2 - x4_1)) - 1)), cl, H', ⟨by have := HK1.out; have := HK2.out; first | omega | exact Nat.le_refl _⟩, ⟨by (with_reducible repeat (first | refine blk_drewN ?_ _ | refine blk_drew ?_ | refine blk_alloc ?_ _)); refine blk_far ?_ NB317_322.out _; (with_reducible repeat (first | refine blk_drewN ?_ _ | refine blk_drew ?_ | refine blk_alloc ?_ _)); refine blk_far ?_ NB317_322.out _; (with_reducible repeat (first | refine blk_drewN ?_ _ | refine blk_drew ?_ | refine blk_alloc ?_ _)); exact BK317.out⟩, ⟨by (with_reducible repeat (first | refine blk_drewN ?_ _ | refine blk_drew ?_ | refine blk_alloc ?_ _)); refine blk_far ?_ NB320_322.out _; (with_reducible repeat (first | refine blk_drewN ?_ _ | refine blk_drew ?_ | refine blk_alloc ?_ _)); refine blk_far ?_ NB320_322.out _; (with_reducible repeat (first | refine blk_drewN ?_ _ | refine blk_drew ?_ | refine blk_alloc ?_ _)); exact BK320.out⟩, ⟨by (with_reducible repeat (first | refine blk_drewN ?_ _ | refine blk_drew ?_ | refine blk_alloc ?_ _)); refine blk_put (cs := #[.int .i64 ((rd_T113 l0 x7_2).f0), .string (⟨#[]⟩ : ByteArray)]) ?_ 1 _ rfl; (with_reducible repeat (first | refine blk_drewN ?_ _ | refine blk_drew ?_ | refine blk_alloc ?_ _)); exact blk_put (cs := #[.int .i64 0, .string (⟨#[]⟩ : ByteArray)]) bk 0 _ rfl⟩, ⟨bwS⟩⟩
         rw [if_neg c20] at H; have c20b0 : decide (x4_1 < x7_2) = false := decide_eq_false c20; clear c20
         (first | rw [c20b0] | (simp only [i64_w, i32_w]; rw [c20b0]) | skip)
         have H' := Aside0.mk H; clear H
         as_aux_lemma =>
          go_wp2
          go_meet
          case rel => exact ⟨_, (x7_2), cl, H', ⟨by have := HK1.out; have := HK2.out; first | omega | exact Nat.le_refl _⟩, ⟨by (with_reducible repeat (first | refine blk_drewN ?_ _ | refine blk_drew ?_ | refine blk_alloc ?_ _)); refine blk_far ?_ NB317_322.out _; (with_reducible repeat (first | refine blk_drewN ?_ _ | refine blk_drew ?_ | refine blk_alloc ?_ _)); refine blk_far ?_ NB317_322.out _; (with_reducible repeat (first | refine blk_drewN ?_ _ | refine blk_drew ?_ | refine blk_alloc ?_ _)); exact BK317.out⟩, ⟨by (with_reducible repeat (first | refine blk_drewN ?_ _ | refine blk_drew ?_ | refine blk_alloc ?_ _)); refine blk_far ?_ NB320_322.out _; (with_reducible repeat (first | refine blk_drewN ?_ _ | refine blk_drew ?_ | refine blk_alloc ?_ _)); refine blk_far ?_ NB320_322.out _; (with_reducible repeat (first | refine blk_drewN ?_ _ | refine blk_drew ?_ | refine blk_alloc ?_ _)); exact BK320.out⟩, ⟨by (with_reducible repeat (first | refine blk_drewN ?_ _ | refine blk_drew ?_ | refine blk_alloc ?_ _)); refine blk_put (cs := #[.int .i64 ((rd_T113 l0 x7_2).f0), .string (⟨#[]⟩ : ByteArray)]) ?_ 1 _ rfl; (with_reducible repeat (first | refine blk_drewN ?_ _ | refine blk_drew ?_ | refine blk_alloc ?_ _)); exact blk_put (cs := #[.int .i64 0, .string (⟨#[]⟩ : ByteArray)]) bk 0 _ rfl⟩, ⟨bwS⟩⟩
        case rest =>
         clear HC15 c13b0 c14b0 hcz19_0 hcz19_1 hfz19_0 hfz19_1 hx321_0 hx321_1 p321 q321; obtain ⟨kq, x9_14, rfl, HA, HJ14, BK317, BK320, BK322, HB⟩ := hcut; cases kq with
         | zero => exact absurd HA.out (by simp [bulletinref13_Of.j2])
         | succ kj14 =>
          have H := HA.out; clear HA; simp only [bulletinref13_Of.j2] at H; have HC21 := Aside0.mk H; clear H
          go_upto_region 17 with (fail)
          go_cut [75] (fun v75 wc => ∃ (kq : Nat) (x75_20 : Bool), v75 = .bool x75_20 ∧ Aside0 (bulletinref13_Of.j3 kq l0 x4_1 x7_2 x9_14 x75_20 x321000_2 x321001_2 ((rd_T113 l0 x7_2).f0) ((rd_T113 l0 x7_2).f1) = some (r1, r2, r3)) ∧ Aside0 (kq ≤ kj14) ∧ Aside0 (wc.heap[gb317]? = some (.cells #[.string x318000_2, .string x318001_2] 38 (0, 0))) ∧ Aside0 (wc.heap[gb320]? = some (.cells #[.string x321000_2, .string x321001_2] 38 (0, 0))) ∧ Aside0 (wc.heap[gb322]? = some (.cells #[.int .i64 ((rd_T113 l0 x7_2).f0), .string ((rd_T113 l0 x7_2).f1)] 113 (0, 0))) ∧ Aside0 (Below w.heap.size w wc))
          case first =>
           have H := HC21.out; clear HC21
           by_cases c22 : x7_2 = x4_1
           ·rw [if_pos c22] at H; have c22b0 := beq_iff_eq.mpr c22; have c22b1 := bne_eq_false_iff_eq.mpr c22; clear c22
            (first | rw [c22b0] | (simp only [i64_w, i32_w]; rw [c22b0]) | skip)
            have H' := Aside0.mk H; clear H
            as_aux_lemma =>
             go_wp2
             go_meet
             case rel => exact ⟨_, (false), cl, H', ⟨by have := HK1.out; have := HK2.out; have := HJ14.out; first | omega | exact Nat.le_refl _⟩, ⟨bk⟩, ⟨bk⟩, ⟨bk⟩, ⟨bwS⟩⟩
           rw [if_neg c22] at H; have c22b0 := beq_eq_false_iff_ne.mpr c22; have c22b1 := bne_iff_ne.mpr c22
           (first | rw [c22b0] | (simp only [i64_w, i32_w]; rw [c22b0]) | skip)
           by_cases c23 : (Int.tmod x9_14 2) = 1
           ·rw [if_pos c23] at H; have c23b0 := beq_iff_eq.mpr c23; have c23b1 := bne_eq_false_iff_eq.mpr c23; clear c23
            by_cases c24 : ((rd_T113 l0 x7_2).f0) = 3
            ·rw [if_pos c24] at H; have c24b0 := beq_iff_eq.mpr c24; have c24b1 := bne_eq_false_iff_eq.mpr c24; clear c24; have H' := Aside0.mk H; clear H; have hnb25 := NB322_317.out; have hnc25 := NB317_322.out; have hnb26 := NB322_320.out; have hnc26 := NB320_322.out; obtain ⟨hcz27_0, hcz27_1, hfz27_0, hfz27_1⟩ := bk2 BK322.out
             as_aux_lemma =>
              go_wp2
              go_meet
              case rel => exact ⟨_, ((((rd_T113 l0 x7_2).f1).toList != ([46] : List UInt8))), cl, H', ⟨by have := HK1.out; have := HK2.out; have := HJ14.out; first | omega | exact Nat.le_refl _⟩, ⟨bk⟩, ⟨bk⟩, ⟨bk⟩, ⟨bwS⟩⟩
            rw [if_neg c24] at H; have c24b0 := beq_eq_false_iff_ne.mpr c24; have c24b1 := bne_iff_ne.mpr c24; have H' := Aside0.mk H; clear H; have hnb28 := NB322_317.out; have hnc28 := NB317_322.out; have hnb29 := NB322_320.out; have hnc29 := NB320_322.out; obtain ⟨hcz30_0, hcz30_1, hfz30_0, hfz30_1⟩ := bk2 BK322.out
            as_aux_lemma =>
             go_wp2
             go_meet
             case rel => exact ⟨_, (true), cl, H', ⟨by have := HK1.out; have := HK2.out; have := HJ14.out; first | omega | exact Nat.le_refl _⟩, ⟨bk⟩, ⟨bk⟩, ⟨bk⟩, ⟨bwS⟩⟩
           rw [if_neg c23] at H; have c23b0 := beq_eq_false_iff_ne.mpr c23; have c23b1 := bne_iff_ne.mpr c23; have H' := Aside0.mk H; clear H
           as_aux_lemma =>
            go_wp2
            go_meet
            case rel => exact ⟨_, (false), cl, H', ⟨by have := HK1.out; have := HK2.out; have := HJ14.out; first | omega | exact Nat.le_refl _⟩, ⟨bk⟩, ⟨bk⟩, ⟨bk⟩, ⟨bwS⟩⟩
          case rest =>
           clear HC21; obtain ⟨kq, x75_20, rfl, HA, HJ20, BK317, BK320, BK322, HB⟩ := hcut; cases kq with
           | zero => exact absurd HA.out (by simp [bulletinref13_Of.j3])
           | succ kj20 =>
            have H := HA.out; clear HA; simp only [bulletinref13_Of.j3] at H
            by_cases c31 : x75_20 = true
            ·subst c31; rw [if_pos rfl] at H; simp only [Option.some.injEq, Prod.mk.injEq] at H; obtain ⟨rfl, rfl, rfl⟩ := H; have hnb32 := NB317_320.out; have hnc32 := NB320_317.out; have hnb33 := NB317_322.out; have hnc33 := NB322_317.out; obtain ⟨hcz34_0, hcz34_1, hfz34_0, hfz34_1⟩ := bk2 BK317.out
             as_aux_lemma =>
              go_wp2
              refine bodyPost_ret (results_ct rfl _ _ gb317 38 #[.string (⟨#[]⟩ : ByteArray), .string (⟨#[]⟩ : ByteArray)] (0, 0) _ rfl (by (with_reducible repeat (first | refine blk_drewN ?_ _ | refine blk_drew ?_ | refine blk_alloc ?_ _)); refine blk_put (cs := #[.string (⟨#[]⟩ : ByteArray), .string x318001_2]) ?_ 1 _ rfl; (with_reducible repeat (first | refine blk_drewN ?_ _ | refine blk_drew ?_ | refine blk_alloc ?_ _)); exact blk_put (cs := #[.string x318000_2, .string x318001_2]) bk 0 _ rfl) Tryd.underlying38 rfl (by kernel_rfl)) rfl ?_; exact ⟨ew, bwS⟩
            replace c31 := Bool.eq_false_iff.mpr c31; subst c31; rw [if_neg nft] at H; have HC35 := Aside0.mk H; clear H
            go_upto_region 19 with (fail)
            go_cut [99] (fun v99 wc => ∃ (kq : Nat) (x99_34 : Bool), v99 = .bool x99_34 ∧ Aside0 (bulletinref13_Of.j4 kq l0 x4_1 x7_2 x99_34 x321000_2 x321001_2 ((rd_T113 l0 x7_2).f0) ((rd_T113 l0 x7_2).f1) = some (r1, r2, r3)) ∧ Aside0 (kq ≤ kj20) ∧ Aside0 (wc.heap[gb317]? = some (.cells #[.string x318000_2, .string x318001_2] 38 (0, 0))) ∧ Aside0 (wc.heap[gb320]? = some (.cells #[.string x321000_2, .string x321001_2] 38 (0, 0))) ∧ Aside0 (wc.heap[gb322]? = some (.cells #[.int .i64 ((rd_T113 l0 x7_2).f0), .string ((rd_T113 l0 x7_2).f1)] 113 (0, 0))) ∧ Aside0 (Below w.heap.size w wc))
            case first =>
             have H := HC35.out; clear HC35
             by_cases c36 : x7_2 = x4_1
             ·rw [if_pos c36] at H; have c36b0 := beq_iff_eq.mpr c36; have c36b1 := bne_eq_false_iff_eq.mpr c36; clear c36
              (first | rw [c36b0] | (simp only [i64_w, i32_w]; rw [c36b0]) | skip)
              have H' := Aside0.mk H; clear H
              as_aux_lemma =>
               go_wp2
               go_meet
               case rel => exact ⟨_, (false), cl, H', ⟨by have := HK1.out; have := HK2.out; have := HJ14.out; have := HJ20.out; first | omega | exact Nat.le_refl _⟩, ⟨bk⟩, ⟨bk⟩, ⟨bk⟩, ⟨bwS⟩⟩
             rw [if_neg c36] at H; have c36b0 := beq_eq_false_iff_ne.mpr c36; have c36b1 := bne_iff_ne.mpr c36
             (first | rw [c36b0] | (simp only [i64_w, i32_w]; rw [c36b0]) | skip)
             by_cases c37 : (Int.tmod x9_14 2) = 0
             ·rw [if_pos c37] at H; have c37b0 := beq_iff_eq.mpr c37; have c37b1 := bne_eq_false_iff_eq.mpr c37; clear c37
              by_cases c38 : ((rd_T113 l0 x7_2).f0) = 3
              ·rw [if_pos c38] at H; have c38b0 := beq_iff_eq.mpr c38; have c38b1 := bne_eq_false_iff_eq.mpr c38; clear c38; have H' := Aside0.mk H; clear H; have hnb39 := NB322_317.out; have hnc39 := NB317_322.out; have hnb40 := NB322_320.out; have hnc40 := NB320_322.out; obtain ⟨hcz41_0, hcz41_1, hfz41_0, hfz41_1⟩ := bk2 BK322.out
               as_aux_lemma =>
                go_wp2
                go_meet
                case rel => exact ⟨_, (true), cl, H', ⟨by have := HK1.out; have := HK2.out; have := HJ14.out; have := HJ20.out; first | omega | exact Nat.le_refl _⟩, ⟨bk⟩, ⟨bk⟩, ⟨bk⟩, ⟨bwS⟩⟩
              rw [if_neg c38] at H; have c38b0 := beq_eq_false_iff_ne.mpr c38; have c38b1 := bne_iff_ne.mpr c38
              by_cases c42 : x7_2 > x4_1
              ·rw [if_pos c42] at H; have c42b0 : decide (x4_1 < x7_2) = true := decide_eq_true c42; clear c42; have H' := Aside0.mk H; clear H; have hnb43 := NB322_317.out; have hnc43 := NB317_322.out; have hnb44 := NB322_320.out; have hnc44 := NB320_322.out; obtain ⟨hcz45_0, hcz45_1, hfz45_0, hfz45_1⟩ := bk2 BK322.out
               as_aux_lemma =>
                go_wp2
                go_meet
                case rel => exact ⟨_, ((((rd_T113 l0 x7_2).f0) != 1)), cl, H', ⟨by have := HK1.out; have := HK2.out; have := HJ14.out; have := HJ20.out; first | omega | exact Nat.le_refl _⟩, ⟨bk⟩, ⟨bk⟩, ⟨bk⟩, ⟨bwS⟩⟩
              rw [if_neg c42] at H; have c42b0 : decide (x4_1 < x7_2) = false := decide_eq_false c42; clear c42; have H' := Aside0.mk H; clear H; have hnb46 := NB322_317.out; have hnc46 := NB317_322.out; have hnb47 := NB322_320.out; have hnc47 := NB320_322.out; obtain ⟨hcz48_0, hcz48_1, hfz48_0, hfz48_1⟩ := bk2 BK322.out
              as_aux_lemma =>
               go_wp2
               go_meet
               case rel => exact ⟨_, (false), cl, H', ⟨by have := HK1.out; have := HK2.out; have := HJ14.out; have := HJ20.out; first | omega | exact Nat.le_refl _⟩, ⟨bk⟩, ⟨bk⟩, ⟨bk⟩, ⟨bwS⟩⟩
             rw [if_neg c37] at H; have c37b0 := beq_eq_false_iff_ne.mpr c37; have c37b1 := bne_iff_ne.mpr c37; have H' := Aside0.mk H; clear H
             as_aux_lemma =>
              go_wp2
              go_meet
              case rel => exact ⟨_, (false), cl, H', ⟨by have := HK1.out; have := HK2.out; have := HJ14.out; have := HJ20.out; first | omega | exact Nat.le_refl _⟩, ⟨bk⟩, ⟨bk⟩, ⟨bk⟩, ⟨bwS⟩⟩
            case rest =>
             clear HC35; obtain ⟨kq, x99_34, rfl, HA, HJ34, BK317, BK320, BK322, HB⟩ := hcut; cases kq with
             | zero => exact absurd HA.out (by simp [bulletinref13_Of.j4])
             | succ kj34 =>
              have H := HA.out; clear HA; simp only [bulletinref13_Of.j4] at H
              by_cases c49 : x99_34 = true
              ·subst c49; rw [if_pos rfl] at H; simp only [Option.some.injEq, Prod.mk.injEq] at H; obtain ⟨rfl, rfl, rfl⟩ := H; have hnb50 := NB317_320.out; have hnc50 := NB320_317.out; have hnb51 := NB317_322.out; have hnc51 := NB322_317.out; obtain ⟨hcz52_0, hcz52_1, hfz52_0, hfz52_1⟩ := bk2 BK317.out
               as_aux_lemma =>
                go_wp2
                refine bodyPost_ret (results_ct rfl _ _ gb317 38 #[.string (⟨#[]⟩ : ByteArray), .string (⟨#[]⟩ : ByteArray)] (0, 0) _ rfl (by (with_reducible repeat (first | refine blk_drewN ?_ _ | refine blk_drew ?_ | refine blk_alloc ?_ _)); refine blk_put (cs := #[.string (⟨#[]⟩ : ByteArray), .string x318001_2]) ?_ 1 _ rfl; (with_reducible repeat (first | refine blk_drewN ?_ _ | refine blk_drew ?_ | refine blk_alloc ?_ _)); exact blk_put (cs := #[.string x318000_2, .string x318001_2]) bk 0 _ rfl) Tryd.underlying38 rfl (by kernel_rfl)) rfl ?_; exact ⟨ew, bwS⟩
              replace c49 := Bool.eq_false_iff.mpr c49; subst c49; rw [if_neg nft] at H
              by_cases c53 : x7_2 < x4_1
              ·rw [if_pos c53] at H; have c53b0 := decide_eq_true c53; clear c53
               by_cases c54 : x321000_2.size + ((rd_T113 l0 x7_2).f1).size ≤ 9223372036854775807
               ·rw [if_pos c54] at H; have c54b0 := eq_true c54; have c54b1 := decide_eq_true c54
                try have c54b2 : (9223372036854775807 < x321000_2.size + ((rd_T113 l0 x7_2).f1).size) = False := eq_false (Nat.not_lt.2 c54)
                by_cases c55 : x7_2 > x4_1
                ·rw [if_pos c55] at H; have c55b0 : decide (x4_1 < x7_2) = true := decide_eq_true c55; clear c55
                 by_cases c56 : x321001_2.size + ((rd_T113 l0 x7_2).f1).size ≤ 9223372036854775807
                 ·rw [if_pos c56] at H; have c56b0 := eq_true c56; have c56b1 := decide_eq_true c56
                  try have c56b2 : (9223372036854775807 < x321001_2.size + ((rd_T113 l0 x7_2).f1).size) = False := eq_false (Nat.not_lt.2 c56)
                  have H' := Aside0.mk H; clear H; have hnb57 := NB320_317.out; have hnc57 := NB317_320.out; have hnb58 := NB320_322.out; have hnc58 := NB322_320.out; obtain ⟨hcz59_0, hcz59_1, hfz59_0, hfz59_1⟩ := bk2 BK320.out; have hnb60 := NB322_317.out; have hnc60 := NB317_322.out; obtain ⟨hcz61_0, hcz61_1, hfz61_0, hfz61_1⟩ := bk2 BK322.out
                  as_aux_lemma =>
                   go_wp2
                   go_roundg kj34
                   case measure => have := HK1.out; have := HK2.out; have := HJ14.out; have := HJ20.out; have := HJ34.out; omega
                   case rel => exact ⟨(wrap64 (x7_2 + 1)), (x318000_2), (x318001_2), (x321000_2 ++ ((rd_T113 l0 x7_2).f1)), (x321001_2 ++ ((rd_T113 l0 x7_2).f1)), cl, H', ⟨by have := HK1.out; have := HK2.out; have := HJ14.out; have := HJ20.out; have := HJ34.out; omega⟩, ⟨by (with_reducible repeat (first | refine blk_drewN ?_ _ | refine blk_drew ?_ | refine blk_alloc ?_ _)); refine blk_far ?_ NB317_320.out _; (with_reducible repeat (first | refine blk_drewN ?_ _ | refine blk_drew ?_ | refine blk_alloc ?_ _)); refine blk_far ?_ NB317_320.out _; (with_reducible repeat (first | refine blk_drewN ?_ _ | refine blk_drew ?_ | refine blk_alloc ?_ _)); exact BK317.out⟩, ⟨by (with_reducible repeat (first | refine blk_drewN ?_ _ | refine blk_drew ?_ | refine blk_alloc ?_ _)); refine blk_put (cs := #[.string (x321000_2 ++ ((rd_T113 l0 x7_2).f1)), .string x321001_2]) ?_ 1 _ rfl; (with_reducible repeat (first | refine blk_drewN ?_ _ | refine blk_drew ?_ | refine blk_alloc ?_ _)); exact blk_put (cs := #[.string x321000_2, .string x321001_2]) bk 0 _ rfl⟩, ⟨bwS⟩⟩
                 rw [if_neg c56] at H; exact absurd H (by simp)
                rw [if_neg c55] at H; have c55b0 : decide (x4_1 < x7_2) = false := decide_eq_false c55; clear c55; have H' := Aside0.mk H; clear H; have hnb62 := NB320_317.out; have hnc62 := NB317_320.out; have hnb63 := NB320_322.out; have hnc63 := NB322_320.out; obtain ⟨hcz64_0, hcz64_1, hfz64_0, hfz64_1⟩ := bk2 BK320.out; have hnb65 := NB322_317.out; have hnc65 := NB317_322.out; obtain ⟨hcz66_0, hcz66_1, hfz66_0, hfz66_1⟩ := bk2 BK322.out
                as_aux_lemma =>
                 go_wp2
                 go_roundg kj34
                 case measure => have := HK1.out; have := HK2.out; have := HJ14.out; have := HJ20.out; have := HJ34.out; omega
                 case rel => exact ⟨(wrap64 (x7_2 + 1)), (x318000_2), (x318001_2), (x321000_2 ++ ((rd_T113 l0 x7_2).f1)), (x321001_2), cl, H', ⟨by have := HK1.out; have := HK2.out; have := HJ14.out; have := HJ20.out; have := HJ34.out; omega⟩, ⟨by (with_reducible repeat (first | refine blk_drewN ?_ _ | refine blk_drew ?_ | refine blk_alloc ?_ _)); refine blk_far ?_ NB317_320.out _; (with_reducible repeat (first | refine blk_drewN ?_ _ | refine blk_drew ?_ | refine blk_alloc ?_ _)); exact BK317.out⟩, ⟨by (with_reducible repeat (first | refine blk_drewN ?_ _ | refine blk_drew ?_ | refine blk_alloc ?_ _)); exact blk_put (cs := #[.string x321000_2, .string x321001_2]) bk 0 _ rfl⟩, ⟨bwS⟩⟩
               rw [if_neg c54] at H; exact absurd H (by simp)
              rw [if_neg c53] at H; have c53b0 := decide_eq_false c53; clear c53
              by_cases c67 : x7_2 > x4_1
              ·rw [if_pos c67] at H; have c67b0 : decide (x4_1 < x7_2) = true := decide_eq_true c67; clear c67
               by_cases c68 : x321001_2.size + ((rd_T113 l0 x7_2).f1).size ≤ 9223372036854775807
               ·rw [if_pos c68] at H; have c68b0 := eq_true c68; have c68b1 := decide_eq_true c68
                try have c68b2 : (9223372036854775807 < x321001_2.size + ((rd_T113 l0 x7_2).f1).size) = False := eq_false (Nat.not_lt.2 c68)
                have H' := Aside0.mk H; clear H; have hnb69 := NB320_317.out; have hnc69 := NB317_320.out; have hnb70 := NB320_322.out; have hnc70 := NB322_320.out; obtain ⟨hcz71_0, hcz71_1, hfz71_0, hfz71_1⟩ := bk2 BK320.out; have hnb72 := NB322_317.out; have hnc72 := NB317_322.out; obtain ⟨hcz73_0, hcz73_1, hfz73_0, hfz73_1⟩ := bk2 BK322.out
                as_aux_lemma =>
                 go_wp2
                 go_roundg kj34
                 case measure => have := HK1.out; have := HK2.out; have := HJ14.out; have := HJ20.out; have := HJ34.out; omega
                 case rel => exact ⟨(wrap64 (x7_2 + 1)), (x318000_2), (x318001_2), (x321000_2), (x321001_2 ++ ((rd_T113 l0 x7_2).f1)), cl, H', ⟨by have := HK1.out; have := HK2.out; have := HJ14.out; have := HJ20.out; have := HJ34.out; omega⟩, ⟨by (with_reducible repeat (first | refine blk_drewN ?_ _ | refine blk_drew ?_ | refine blk_alloc ?_ _)); refine blk_far ?_ NB317_320.out _; (with_reducible repeat (first | refine blk_drewN ?_ _ | refine blk_drew ?_ | refine blk_alloc ?_ _)); exact BK317.out⟩, ⟨by (with_reducible repeat (first | refine blk_drewN ?_ _ | refine blk_drew ?_ | refine blk_alloc ?_ _)); exact blk_put (cs := #[.string x321000_2, .string x321001_2]) bk 1 _ rfl⟩, ⟨bwS⟩⟩
               rw [if_neg c68] at H; exact absurd H (by simp)
              rw [if_neg c67] at H; have c67b0 : decide (x4_1 < x7_2) = false := decide_eq_false c67; clear c67; have H' := Aside0.mk H; clear H
              as_aux_lemma =>
               go_wp2
               go_roundg kj34
               case measure => have := HK1.out; have := HK2.out; have := HJ14.out; have := HJ20.out; have := HJ34.out; omega
               case rel => exact ⟨(wrap64 (x7_2 + 1)), (x318000_2), (x318001_2), (x321000_2), (x321001_2), cl, H', ⟨by have := HK1.out; have := HK2.out; have := HJ14.out; have := HJ20.out; have := HJ34.out; omega⟩, ⟨bk⟩, ⟨bk⟩, ⟨bwS⟩⟩
       rw [if_neg c14] at H; exact absurd H (by simp)
      rw [if_neg c13] at H; have c13b0 := decide_eq_false c13; clear c13; have HC74 := Aside0.mk H; clear H
      go_upto_region 25 with (fail)
      go_cut [130] (fun v130 wc => ∃ (kq : Nat) (x130_73 : Bool), v130 = .bool x130_73 ∧ Aside0 (bulletinref13_Of.j5 kq x130_73 x321000_2 x321001_2 = some (r1, r2, r3)) ∧ Aside0 (kq ≤ k2) ∧ Aside0 (wc.heap[gb317]? = some (.cells #[.string x318000_2, .string x318001_2] 38 (0, 0))) ∧ Aside0 (wc.heap[gb320]? = some (.cells #[.string x321000_2, .string x321001_2] 38 (0, 0))) ∧ Aside0 (Below w.heap.size w wc))
      case first =>
       have H := HC74.out; clear HC74
       by_cases c75 : (Int.tmod x4_1 2) = 0
       ·rw [if_pos c75] at H; have c75b0 := beq_iff_eq.mpr c75; have c75b1 := bne_eq_false_iff_eq.mpr c75; clear c75
        (first | rw [c75b0] | (simp only [i64_w, i32_w]; rw [c75b0]) | skip)
        have H' := Aside0.mk H; clear H
        as_aux_lemma =>
         go_wp2
         go_meet
         case rel => exact ⟨_, (true), cl, H', ⟨by have := HK1.out; have := HK2.out; first | omega | exact Nat.le_refl _⟩, ⟨bk⟩, ⟨bk⟩, ⟨bwS⟩⟩
       rw [if_neg c75] at H; have c75b0 := beq_eq_false_iff_ne.mpr c75; have c75b1 := bne_iff_ne.mpr c75
       (first | rw [c75b0] | (simp only [i64_w, i32_w]; rw [c75b0]) | skip)
       have H' := Aside0.mk H; clear H
       as_aux_lemma =>
        go_wp2
        go_meet
        case rel => exact ⟨_, (((Int.tmod (wrap64 ((wrap64 ((l0.length : Int) - x4_1)) - 1)) 2) == 0)), cl, H', ⟨by have := HK1.out; have := HK2.out; first | omega | exact Nat.le_refl _⟩, ⟨bk⟩, ⟨bk⟩, ⟨bwS⟩⟩
      case rest =>
       clear HC74 c13b0; obtain ⟨kq, x130_73, rfl, HA, HJ73, BK317, BK320, HB⟩ := hcut; cases kq with
       | zero => exact absurd HA.out (by simp [bulletinref13_Of.j5])
       | succ kj73 =>
        have H := HA.out; clear HA; simp only [bulletinref13_Of.j5] at H
        by_cases c76 : x130_73 = true
        ·subst c76; rw [if_pos rfl] at H; simp only [Option.some.injEq, Prod.mk.injEq] at H; obtain ⟨rfl, rfl, rfl⟩ := H; have hnb77 := NB317_320.out; have hnc77 := NB320_317.out; obtain ⟨hcz78_0, hcz78_1, hfz78_0, hfz78_1⟩ := bk2 BK317.out
         as_aux_lemma =>
          go_wp2
          refine bodyPost_ret (results_ct rfl _ _ gb317 38 #[.string (⟨#[]⟩ : ByteArray), .string (⟨#[]⟩ : ByteArray)] (0, 0) _ rfl (by (with_reducible repeat (first | refine blk_drewN ?_ _ | refine blk_drew ?_ | refine blk_alloc ?_ _)); refine blk_put (cs := #[.string (⟨#[]⟩ : ByteArray), .string x318001_2]) ?_ 1 _ rfl; (with_reducible repeat (first | refine blk_drewN ?_ _ | refine blk_drew ?_ | refine blk_alloc ?_ _)); exact blk_put (cs := #[.string x318000_2, .string x318001_2]) bk 0 _ rfl) Tryd.underlying38 rfl (by kernel_rfl)) rfl ?_; exact ⟨ew, bwS⟩
        replace c76 := Bool.eq_false_iff.mpr c76; subst c76; rw [if_neg nft] at H; replace H := Option.bind_eq_some_iff.mp H; obtain ⟨t323, A790, H⟩ := H; have A79 := Aside0.mk A790; clear A790; replace H := Option.bind_eq_some_iff.mp H; obtain ⟨t324, A800, H⟩ := H; have A80 := Aside0.mk A800; clear A800
        by_cases c81 : t324 = 0
        ·rw [if_pos c81] at H; have c81b0 := beq_iff_eq.mpr c81; have c81b1 := bne_eq_false_iff_eq.mpr c81; clear c81; simp only [Option.some.injEq, Prod.mk.injEq] at H; obtain ⟨rfl, rfl, rfl⟩ := H; have hnb82 := NB320_317.out; have hnc82 := NB317_320.out; obtain ⟨hcz83_0, hcz83_1, hfz83_0, hfz83_1⟩ := bk2 BK320.out
         as_aux_lemma =>
          go_wp2_with (first | ((with_reducible refine gate_callee (f := 80) rfl ?_); refine goesL_ (some 134) rfl rfl Tryd.func80 (by kernel_rfl) rfl #[.string x321001_2] rfl am ?_; (with_reducible refine (bulletinref06_Fold.calls kj73 x321001_2 t323 _ A79.out).mono ?_); rintro e w84 ⟨rfl, hb⟩; refine ⟨_, rfl, ?_⟩; have n0_ := Aside0.mk (blk_below (g := gb317) (o := .cells #[.string x318000_2, .string x318001_2] 38 (0, 0)) bk hb); have n1_ := Aside0.mk (blk_below (g := gb320) (o := .cells #[.string x321000_2, .string x321001_2] 38 (0, 0)) bk hb); have n2_ := Aside0.mk (below_step bwS hb); clear BK317; clear BK320; clear HB; have BK317 := n0_; have BK320 := n1_; have HB := n2_; clear n0_ n1_ n2_; (try clear hb); (try clear hb2); (try clear hk); (try clear hi); have hcz85_0 : w84.cell? ⟨gb320, 0, none⟩ = some (.string x321000_2) := (blk_cell BK320.out 0).trans rfl; have hcz85_1 : w84.cell? ⟨gb320, 1, none⟩ = some (.string x321001_2) := (blk_cell BK320.out 1).trans rfl; have hfz85_0 := blk_frozen BK320.out 0; have hfz85_1 := blk_frozen BK320.out 1) | ((with_reducible refine gate_callee (f := 81) rfl ?_); refine goesL_ (some 137) rfl rfl Tryd.func81 (by kernel_rfl) rfl #[.agg #[.string x321000_2, .string t323]] rfl am ?_; (with_reducible refine (bulletinref13_Why.calls kj73 x321000_2 t323 t324 _ A80.out).mono ?_); rintro e w86 ⟨rfl, hb⟩; refine ⟨_, rfl, ?_⟩; have n0_ := Aside0.mk (blk_below (g := gb317) (o := .cells #[.string x318000_2, .string x318001_2] 38 (0, 0)) (by (with_reducible repeat (first | refine blk_drewN ?_ _ | refine blk_drew ?_ | refine blk_alloc ?_ _)); refine blk_far ?_ NB317_320.out _; (with_reducible repeat (first | refine blk_drewN ?_ _ | refine blk_drew ?_ | refine blk_alloc ?_ _)); exact BK317.out) hb); have n1_ := Aside0.mk (blk_below (g := gb320) (o := .cells #[.string x321000_2, .string t323] 38 (0, 0)) (by (with_reducible repeat (first | refine blk_drewN ?_ _ | refine blk_drew ?_ | refine blk_alloc ?_ _)); exact blk_put (cs := #[.string x321000_2, .string x321001_2]) bk 1 _ rfl) hb); have n2_ := Aside0.mk (below_step bwS hb); clear BK317; clear BK320; clear HB; have BK317 := n0_; have BK320 := n1_; have HB := n2_; clear n0_ n1_ n2_; (try clear hb); (try clear hb2); (try clear hk); (try clear hi); have hcz87_0 : w86.cell? ⟨gb320, 0, none⟩ = some (.string x321000_2) := (blk_cell BK320.out 0).trans rfl; have hcz87_1 : w86.cell? ⟨gb320, 1, none⟩ = some (.string t323) := (blk_cell BK320.out 1).trans rfl; have hfz87_0 := blk_frozen BK320.out 0; have hfz87_1 := blk_frozen BK320.out 1; have hcz88_0 : w86.cell? ⟨gb317, 0, none⟩ = some (.string x318000_2) := (blk_cell BK317.out 0).trans rfl; have hcz88_1 : w86.cell? ⟨gb317, 1, none⟩ = some (.string x318001_2) := (blk_cell BK317.out 1).trans rfl; have hfz88_0 := blk_frozen BK317.out 0; have hfz88_1 := blk_frozen BK317.out 1))
          refine bodyPost_ret (results_ct rfl _ _ gb317 38 #[.string x321000_2, .string t323] (0, 0) _ rfl (by (with_reducible repeat (first | refine blk_drewN ?_ _ | refine blk_drew ?_ | refine blk_alloc ?_ _)); refine blk_put (cs := #[.string x321000_2, .string x318001_2]) ?_ 1 _ rfl; (with_reducible repeat (first | refine blk_drewN ?_ _ | refine blk_drew ?_ | refine blk_alloc ?_ _)); exact blk_put (cs := #[.string x318000_2, .string x318001_2]) bk 0 _ rfl) Tryd.underlying38 rfl (by kernel_rfl)) rfl ?_; exact ⟨ew, bwS⟩
        rw [if_neg c81] at H; have c81b0 := beq_eq_false_iff_ne.mpr c81; have c81b1 := bne_iff_ne.mpr c81; simp only [Option.some.injEq, Prod.mk.injEq] at H; obtain ⟨rfl, rfl, rfl⟩ := H; have hnb89 := NB320_317.out; have hnc89 := NB317_320.out; obtain ⟨hcz90_0, hcz90_1, hfz90_0, hfz90_1⟩ := bk2 BK320.out
        as_aux_lemma =>
         go_wp2_with (first | ((with_reducible refine gate_callee (f := 80) rfl ?_); refine goesL_ (some 134) rfl rfl Tryd.func80 (by kernel_rfl) rfl #[.string x321001_2] rfl am ?_; (with_reducible refine (bulletinref06_Fold.calls kj73 x321001_2 t323 _ A79.out).mono ?_); rintro e w91 ⟨rfl, hb⟩; refine ⟨_, rfl, ?_⟩; have n0_ := Aside0.mk (blk_below (g := gb317) (o := .cells #[.string x318000_2, .string x318001_2] 38 (0, 0)) bk hb); have n1_ := Aside0.mk (blk_below (g := gb320) (o := .cells #[.string x321000_2, .string x321001_2] 38 (0, 0)) bk hb); have n2_ := Aside0.mk (below_step bwS hb); clear BK317; clear BK320; clear HB; have BK317 := n0_; have BK320 := n1_; have HB := n2_; clear n0_ n1_ n2_; (try clear hb); (try clear hb2); (try clear hk); (try clear hi); have hcz92_0 : w91.cell? ⟨gb320, 0, none⟩ = some (.string x321000_2) := (blk_cell BK320.out 0).trans rfl; have hcz92_1 : w91.cell? ⟨gb320, 1, none⟩ = some (.string x321001_2) := (blk_cell BK320.out 1).trans rfl; have hfz92_0 := blk_frozen BK320.out 0; have hfz92_1 := blk_frozen BK320.out 1) | ((with_reducible refine gate_callee (f := 81) rfl ?_); refine goesL_ (some 137) rfl rfl Tryd.func81 (by kernel_rfl) rfl #[.agg #[.string x321000_2, .string t323]] rfl am ?_; (with_reducible refine (bulletinref13_Why.calls kj73 x321000_2 t323 t324 _ A80.out).mono ?_); rintro e w93 ⟨rfl, hb⟩; refine ⟨_, rfl, ?_⟩; have n0_ := Aside0.mk (blk_below (g := gb317) (o := .cells #[.string x318000_2, .string x318001_2] 38 (0, 0)) (by (with_reducible repeat (first | refine blk_drewN ?_ _ | refine blk_drew ?_ | refine blk_alloc ?_ _)); refine blk_far ?_ NB317_320.out _; (with_reducible repeat (first | refine blk_drewN ?_ _ | refine blk_drew ?_ | refine blk_alloc ?_ _)); exact BK317.out) hb); have n1_ := Aside0.mk (blk_below (g := gb320) (o := .cells #[.string x321000_2, .string t323] 38 (0, 0)) (by (with_reducible repeat (first | refine blk_drewN ?_ _ | refine blk_drew ?_ | refine blk_alloc ?_ _)); exact blk_put (cs := #[.string x321000_2, .string x321001_2]) bk 1 _ rfl) hb); have n2_ := Aside0.mk (below_step bwS hb); clear BK317; clear BK320; clear HB; have BK317 := n0_; have BK320 := n1_; have HB := n2_; clear n0_ n1_ n2_; (try clear hb); (try clear hb2); (try clear hk); (try clear hi); have hcz94_0 : w93.cell? ⟨gb317, 0, none⟩ = some (.string x318000_2) := (blk_cell BK317.out 0).trans rfl; have hcz94_1 : w93.cell? ⟨gb317, 1, none⟩ = some (.string x318001_2) := (blk_cell BK317.out 1).trans rfl; have hfz94_0 := blk_frozen BK317.out 0; have hfz94_1 := blk_frozen BK317.out 1))
         refine bodyPost_ret (results_ct rfl _ _ gb317 38 #[.string (⟨#[]⟩ : ByteArray), .string (⟨#[]⟩ : ByteArray)] (0, 0) _ rfl (by (with_reducible repeat (first | refine blk_drewN ?_ _ | refine blk_drew ?_ | refine blk_alloc ?_ _)); refine blk_put (cs := #[.string (⟨#[]⟩ : ByteArray), .string x318001_2]) ?_ 1 _ rfl; (with_reducible repeat (first | refine blk_drewN ?_ _ | refine blk_drew ?_ | refine blk_alloc ?_ _)); exact blk_put (cs := #[.string x318000_2, .string x318001_2]) bk 0 _ rfl) Tryd.underlying38 rfl (by kernel_rfl)) rfl ?_; exact ⟨ew, bwS⟩

end Go.Proofs.YtihabmcaplnbcaaDoor.Fn
set_option linter.unusedVariables false
namespace Go.Proofs.YtihabmcaplnbcaaDoor.Pl
open Go.RowKit Go.Proofs.YtihabmcaplnbcaaDoorW.PrintWords Go.Proofs.YtihabmcaplnbcaaDoor.Fn

/-! Layer 13: the address that tokens are. -/
def isT (t : Tok) (s : Bytes) : Bool := t.1 == 3 && t.2 == s
def wordT (t : Tok) : Bool := t.1 != 3
def atomT (t : Tok) : Bool := t.1 != 3 && t.1 == 1
def altOk (p : Tok → Bool) : List Tok → Bool
 | [] => false
 | [x] => p x
 | x :: d :: r => p x && isT d [46] && altOk p r
def cat (l : List Tok) : Bytes := l.flatMap (·.2)
def atSplit : List Tok → Option (List Tok × List Tok)
 | [] => none
 | t :: r => if isT t [64] = true then some ([], r) else (atSplit r).map fun x => (t :: x.1, x.2)
abbrev Res := ByteArray × ByteArray × Int
def finish (a b : Bytes) : Res := if why (str a) (str (fold b)) = 0 then (str a, str (fold b), 0) else (str [], str [], why (str a) (str (fold b)))
def noAddr : Res := (str [], str [], 130)
def ofT (l : List Tok) : Res := match atSplit l with
 | none => noAddr
 | some (A, B) => if altOk wordT A = true ∧ altOk atomT B = true then finish (cat A) (cat B) else noAddr

theorem atSplit_some {l A B : List Tok} (h : atSplit l = some (A, B)) : ∃ t, isT t [64] = true ∧ l = A ++ t :: B ∧ ∀ x ∈ A, isT x [64] = false := by
 induction l generalizing A B with
 | nil => cases h
 | cons t r ih =>
  rw [atSplit] at h
  by_cases ht : isT t [64] = true
  ·rw [if_pos ht] at h
   cases h
   exact ⟨t, ht, rfl, by simp⟩
  rw [if_neg ht] at h
  cases hr : atSplit r with
  | none => rw [hr] at h; cases h
  | some x =>
   obtain ⟨A', B'⟩ := x
   rw [hr] at h
   simp only [Option.map_some, Option.some.injEq, Prod.mk.injEq] at h
   obtain ⟨rfl, rfl⟩ := h
   obtain ⟨u, h1, h2, h3⟩ := ih hr
   refine ⟨u, h1, by rw [h2]; rfl, ?_⟩
   intro x hx
   rcases List.mem_cons.1 hx with e | e
   ·rw [e]; simpa using ht
   exact h3 x e
theorem atSplit_of {A B : List Tok} {t : Tok} (ht : isT t [64] = true) (hA : ∀ x ∈ A, isT x [64] = false) : atSplit (A ++ t :: B) = some (A, B) := by
 induction A with
 | nil => rw [List.nil_append, atSplit, if_pos ht]
 | cons a A ih =>
  rw [List.cons_append, atSplit, if_neg (by rw [hA a (by simp)]; decide), ih (fun x hx => hA x (List.mem_cons_of_mem _ hx))]
  rfl

/-! the program's: words joined by dots, as long as they go on -/
def jn (p : Tok → Bool) : List Tok → Option (Bytes × List Tok)
 | [] => none
 | [x] => if p x = true then some (x.2, []) else none
 | x :: d :: r => if p x = true then (if isT d [46] = true then (jn p r).map fun y => (x.2 ++ d.2 ++ y.1, y.2) else some (x.2, d :: r)) else none
theorem jn_some (p : Tok → Bool) : ∀ {l : List Tok} {s : Bytes} {q : List Tok}, jn p l = some (s, q) → ∃ A, l = A ++ q ∧ altOk p A = true ∧ s = cat A
 | [], s, q, h => by cases h
 | [x], s, q, h => by
  rw [jn] at h
  by_cases hp : p x = true
  ·rw [if_pos hp] at h
   simp only [Option.some.injEq, Prod.mk.injEq] at h
   obtain ⟨rfl, rfl⟩ := h
   exact ⟨[x], rfl, hp, by simp [cat]⟩
  rw [if_neg hp] at h; cases h
 | x :: d :: r, s, q, h => by
  rw [jn] at h
  by_cases hp : p x = true
  ·rw [if_pos hp] at h
   by_cases hd : isT d [46] = true
   ·rw [if_pos hd] at h
    cases hr : jn p r with
    | none => rw [hr] at h; cases h
    | some y =>
     obtain ⟨s', q'⟩ := y
     rw [hr] at h
     simp only [Option.map_some, Option.some.injEq, Prod.mk.injEq] at h
     obtain ⟨rfl, rfl⟩ := h
     obtain ⟨A, h1, h2, h3⟩ := jn_some p hr
     refine ⟨x :: d :: A, by rw [h1]; rfl, ?_, ?_⟩
     ·rw [altOk, hp, hd, h2]; rfl
     rw [h3]; simp [cat]
   rw [if_neg hd] at h
   simp only [Option.some.injEq, Prod.mk.injEq] at h
   obtain ⟨rfl, rfl⟩ := h
   exact ⟨[x], rfl, hp, by simp [cat]⟩
  rw [if_neg hp] at h; cases h
theorem jn_of (p : Tok → Bool) : ∀ (A q : List Tok), altOk p A = true → (∀ d r, q = d :: r → isT d [46] = false) → jn p (A ++ q) = some (cat A, q)
 | [], q, h, _ => by cases h
 | [x], q, h, hq => by
  have hp : p x = true := h
  cases q with
  | nil => rw [List.append_nil, jn, if_pos hp]; simp [cat]
  | cons d r =>
   rw [show [x] ++ d :: r = x :: d :: r from rfl, jn, if_pos hp, if_neg (by rw [hq d r rfl]; decide)]
   simp [cat]
 | x :: d :: A, q, h, hq => by
  rw [altOk, Bool.and_eq_true, Bool.and_eq_true] at h
  rw [show (x :: d :: A) ++ q = x :: d :: (A ++ q) from rfl, jn, if_pos h.1.1, if_pos h.1.2, jn_of p A q h.2 hq]
  simp [cat]
def resJ (w : Bytes) : Option (Bytes × List Tok) → ByteArray × List S107 × Bool
 | none => (str [], [], false)
 | some (s, q) => (str (w ++ s), q.map tok142, true)
def pOf (b : Bool) : Tok → Bool := fun t => if b = true then atomT t else wordT t
theorem rd142_0 (x : Tok) (r : List Tok) : rd_T107 ((x :: r).map tok142) 0 = tok142 x := rfl
theorem beq_str (t : Bytes) (a : Array UInt8) : ((str t).toList == (⟨a⟩ : ByteArray).toList) = (t == a.toList) := by
 rw [toList_str, toList_bs]
 rfl
def headIs (l : List Tok) (s : Bytes) : Bool := match l with | [] => false | t :: _ => isT t s
theorem addris_is (l : List Tok) (a : Array UInt8) : addr_is.f (l.map tok142) (⟨a⟩ : ByteArray) = some (headIs l a.toList) := by
 unfold addr_is.f
 cases l with
 | nil => rw [if_neg (by simp)]; rfl
 | cons t r =>
  rw [if_pos (by simp <;> omega), if_pos (by simp <;> omega), rd142_0]
  unfold headIs isT tok142
  simp only []
  rw [beq_str]
theorem joined_is (b : Bool) : ∀ (n k : Nat) (l : List Tok) (w : Bytes), l.length ≤ n → 2 * n + 2 ≤ k → w.length + (cat l).length ≤ 1000000 →
  addr_joined.l0 k (l.map tok142) b (str w) = some (resJ w (jn (pOf b) l))
 | n, k, [], w, hn, hk, hw => by
  obtain ⟨k, rfl⟩ : ∃ j, k = j + 2 := ⟨k - 2, by omega⟩
  rw [addr_joined.l0, if_pos (by simp), addr_joined.j1, if_pos rfl]
  rfl
 | 0, k, x :: r, w, hn, hk, hw => by simp at hn
 | n + 1, k, x :: r, w, hn, hk, hw => by
  obtain ⟨k, rfl⟩ : ∃ j, k = j + 2 := ⟨k - 2, by omega⟩
  simp only [List.length_cons] at hn
  have hsel : addr_joined.l0 (k + 2) ((x :: r).map tok142) b (str w) = addr_joined.j1 (k + 1) ((x :: r).map tok142) b (str w) (!(pOf b x)) := by
   rw [addr_joined.l0, if_neg (by simp <;> omega), if_pos (by simp <;> omega), rd142_0]
   have e3 : ((tok142 x).f0 = 3) = (x.1 = 3) := rfl
   unfold pOf atomT wordT
   by_cases h3 : x.1 = 3
   ·rw [if_pos (by rw [e3]; exact h3)]
    cases b <;> simp [h3]
   rw [if_neg (by rw [e3]; exact h3)]
   have q3 : (x.1 == 3) = false := by simpa using h3
   cases b with
   | true => rw [if_pos rfl]; simp [q3, tok142, bne]
   | false => rw [if_neg (by decide)]; simp [q3, bne]
  have hc : (cat (x :: r)).length = x.2.length + (cat r).length := by simp [cat]
  rw [hsel, addr_joined.j1]
  cases hp : pOf b x with
  | false =>
   rw [show (!false) = true from rfl, if_pos rfl]
   have : jn (pOf b) (x :: r) = none := by
    cases r with
    | nil => rw [jn, if_neg (by rw [hp]; decide)]
    | cons d r => rw [jn, if_neg (by rw [hp]; decide)]
   rw [this]
   rfl
  | true =>
   rw [show (!true) = false from rfl, if_neg (by decide), if_pos (by simp <;> omega), rd142_0, show (tok142 x).f1 = str x.2 from rfl, str_app, if_pos (by rw [str_size, str_size]; omega), if_pos (by simp <;> omega), Option.bind_some,
    show ((x :: r).map tok142).drop 1 = r.map tok142 from rfl, addris_is, Option.bind_some]
   cases r with
   | nil =>
    rw [show headIs [] (#[46] : Array UInt8).toList = false from rfl, if_neg (by decide), jn, if_pos hp]
    rfl
   | cons d r =>
    simp only [List.length_cons] at hn
    have hc2 : (cat (d :: r)).length = d.2.length + (cat r).length := by simp [cat]
    rw [jn, if_pos hp]
    cases hd : isT d [46] with
    | false =>
     rw [show headIs (d :: r) (#[46] : Array UInt8).toList = isT d [46] from rfl, hd, if_neg (by decide), if_neg (by decide)]
     rfl
    | true =>
     have hd2 : d.2 = [46] := by
      unfold isT at hd
      rw [Bool.and_eq_true, beq_iff_eq, beq_iff_eq] at hd
      exact hd.2
     rw [show headIs (d :: r) (#[46] : Array UInt8).toList = isT d [46] from rfl, hd, if_pos rfl, if_pos (by rw [str_size]; rw [hd2] at hc2; simp at hc2 ⊢ <;> omega), if_pos (by simp <;> omega), if_pos rfl,
      show ((d :: r).map tok142).drop 1 = r.map tok142 from rfl, show (⟨#[46]⟩ : ByteArray) = str [46] from rfl, str_app]
     rw [joined_is b n k r (w ++ x.2 ++ [46]) (by omega) (by omega) (by rw [hd2] at hc2; simp at hc2 ⊢ <;> omega)]
     cases hj : jn (pOf b) r with
     | none => rfl
     | some y =>
      obtain ⟨s, q⟩ := y
      simp [resJ, hd2]
theorem no64 {p : Tok → Bool} (hp : ∀ t, p t = true → t.1 ≠ 3) : ∀ {A : List Tok}, altOk p A = true → ∀ x ∈ A, isT x [64] = false
 | [], h, x, hx => by cases hx
 | [y], h, x, hx => by
  have : x = y := by simpa using hx
  subst this
  have := hp x h
  unfold isT
  simp [this]
 | y :: d :: A, h, x, hx => by
  rw [altOk, Bool.and_eq_true, Bool.and_eq_true] at h
  rcases List.mem_cons.1 hx with e | e
  ·rw [e]
   have := hp y h.1.1
   unfold isT
   simp [this]
  rcases List.mem_cons.1 e with e | e
  ·rw [e]
   have := h.1.2
   unfold isT at this ⊢
   rw [Bool.and_eq_true, beq_iff_eq, beq_iff_eq] at this
   rw [this.2]
   simp
  exact no64 hp h.2 x e
theorem addrOf_is (l : List Tok) (hl : l.length ≤ 100000) (hc : (cat l).length ≤ 100000) (k : Nat) (hk : 2 * l.length + 400000 ≤ k) : addr_Of.f k (l.map tok142) = some (ofT l) := by
 obtain ⟨k, rfl⟩ : ∃ j, k = j + 2 := ⟨k - 2, by omega⟩
 have bad : ∀ (k : Nat) (x : List S107) (y : ByteArray), addr_Of.j0 (k + 1) x y true = some noAddr := by
  intro k x y
  rw [addr_Of.j0, if_pos rfl]
  rfl
 have bad1 : ∀ (k : Nat) (x y : ByteArray), addr_Of.j1 (k + 1) x y true = some noAddr := by
  intro k x y
  rw [addr_Of.j1, if_pos rfl]
  rfl
 unfold addr_Of.f addr_joined.f
 rw [show (⟨#[]⟩ : ByteArray) = str [] from rfl, joined_is false l.length (k + 2) l [] (Nat.le_refl _) (by omega) (by simp <;> omega), Option.bind_some]
 have hpf : pOf false = wordT := by funext t; rfl
 have hpt : pOf true = atomT := by funext t; rfl
 rw [hpf]
 have hword : ∀ t, wordT t = true → t.1 ≠ 3 := fun t h => by unfold wordT at h; simpa using h
 cases hj : jn wordT l with
 | none =>
  rw [show resJ [] none = (str [], [], false) from rfl, if_neg (by decide), bad]
  unfold ofT
  cases hs : atSplit l with
  | none => rfl
  | some x =>
   obtain ⟨A, B⟩ := x
   obtain ⟨t, h1, h2, h3⟩ := atSplit_some hs
   simp only []
   rw [if_neg]
   rintro ⟨g, _⟩
   have := jn_of wordT A (t :: B) g (fun d r e => by
    cases e
    unfold isT at h1 ⊢
    rw [Bool.and_eq_true, beq_iff_eq, beq_iff_eq] at h1
    rw [h1.2]
    simp)
   rw [← h2, hj] at this
   cases this
 | some y =>
  obtain ⟨s, q⟩ := y
  obtain ⟨A0, g1, g2, g3⟩ := jn_some wordT hj
  have hA0 := no64 hword g2
  rw [show resJ [] (some (s, q)) = (str s, q.map tok142, true) from rfl]
  simp only [if_true]
  rw [addris_is, Option.bind_some]
  have hother : (∀ t r, q = t :: r → isT t [64] = false) → ofT l = noAddr := by
   intro hq
   unfold ofT
   cases hs : atSplit l with
   | none => rfl
   | some x =>
    obtain ⟨A, B⟩ := x
    obtain ⟨t, h1, h2, h3⟩ := atSplit_some hs
    simp only []
    rw [if_neg]
    rintro ⟨g, _⟩
    have hh := jn_of wordT A (t :: B) g (fun d r e => by
     cases e
     unfold isT at h1 ⊢
     rw [Bool.and_eq_true, beq_iff_eq, beq_iff_eq] at h1
     rw [h1.2]
     simp)
    rw [← h2, hj] at hh
    simp only [Option.some.injEq, Prod.mk.injEq] at hh
    have := hq t B hh.2
    rw [h1] at this
    cases this
  cases q with
  | nil =>
   rw [hother (fun t r e => by cases e)]
   exact bad _ _ _
  | cons t B =>
   simp only []
   rw [show headIs (t :: B) (#[64] : Array UInt8).toList = isT t [64] from rfl]
   cases ht : isT t [64] with
   | false =>
    rw [hother (fun t' r e => by cases e; exact ht)]
    exact bad _ _ _
   | true =>
    have hsp : atSplit l = some (A0, B) := by rw [g1]; exact atSplit_of ht hA0
    have hcl : (cat l).length = (cat A0).length + (t.2.length + (cat B).length) := by rw [g1]; simp [cat]
    have hll : l.length = A0.length + (B.length + 1) := by rw [g1]; simp
    rw [show (!true) = false from rfl, addr_Of.j0, if_neg (by decide), if_pos (by simp <;> omega), show ((t :: B).map tok142).drop 1 = B.map tok142 from rfl]
    unfold addr_joined.f
    rw [show (⟨#[]⟩ : ByteArray) = str [] from rfl, joined_is true B.length (k + 1) B [] (Nat.le_refl _) (by omega) (by simp <;> omega), Option.bind_some, hpt]
    unfold ofT
    rw [hsp]
    simp only []
    cases hj2 : jn atomT B with
    | none =>
     rw [show resJ [] none = (str [], [], false) from rfl, if_neg (by decide), bad1, if_neg]
     rintro ⟨_, g⟩
     have := jn_of atomT B [] g (fun d r e => by cases e)
     rw [List.append_nil, hj2] at this
     cases this
    | some y =>
     obtain ⟨s2, q2⟩ := y
     obtain ⟨A2, f1, f2, f3⟩ := jn_some atomT hj2
     rw [show resJ [] (some (s2, q2)) = (str s2, q2.map tok142, true) from rfl]
     simp only [if_true]
     cases q2 with
     | cons d r =>
      rw [show decide (((((d :: r).map tok142).length : Nat) : Int) > 0) = true by simp <;> omega, bad1, if_neg]
      rintro ⟨_, g⟩
      have := jn_of atomT B [] g (fun d r e => by cases e)
      rw [List.append_nil, hj2] at this
      simp at this
     | nil =>
      rw [List.append_nil] at f1
      subst f1
      rw [show decide ((((([] : List Tok).map tok142).length : Nat) : Int) > 0) = false from rfl, addr_Of.j1, if_neg (by decide), if_pos ⟨g2, f2⟩, f3, g3]
      have hb : (cat B).length ≤ 100000 := by omega
      have ha : (cat A0).length ≤ 100000 := by omega
      rw [glyphFold_is _ (by rw [str_size]; omega), bs_str, Option.bind_some, addrWhy_is _ _ (by rw [str_size]; omega) (by rw [str_size, fold_length]; omega) k (by rw [str_size]; omega), Option.bind_some]
      unfold finish
      by_cases hw : why (str (cat A0)) (str (fold (cat B))) = 0
      ·rw [if_pos hw, if_pos hw]
      rw [if_neg hw, if_neg hw]
      rfl
end Go.Proofs.YtihabmcaplnbcaaDoor.Pl
set_option linter.unusedVariables false
set_option linter.unusedSimpArgs false
namespace Go.Proofs.YtihabmcaplnbcaaDoor.Pl
open Go.RowKit Go.Proofs.YtihabmcaplnbcaaDoorW.PrintWords Go.Proofs.YtihabmcaplnbcaaDoor.Fn

/-! how many tokens there are, and how long they are -/
def pend : Sc → Nat
 | .atom _ => 1
 | _ => 0
theorem cat_app (a b : List Tok) : cat (a ++ b) = cat a ++ cat b := by simp [cat]
theorem tail_len {c : UInt8} {l : Bytes} (h : foldAt (c :: l) = true) : l.tail.length + 1 = l.length := by
 cases l with
 | nil => cases h
 | cons b l => simp
theorem stepOut_bound {acc : List Tok} {c : UInt8} {l : Bytes} {a : List Tok} {t : Sc} {r : Bytes} (h : stepOut acc c l = .inl (a, t, r)) :
  a.length + pend t + r.length ≤ acc.length + (l.length + 1) ∧ (cat a).length + (wOf t).length + r.length ≤ (cat acc).length + (l.length + 1) := by
 unfold stepOut at h
 by_cases c1 : foldAt (c :: l) = true
 ·rw [if_pos c1] at h
  have := tail_len c1
  simp only [Sum.inl.injEq, Prod.mk.injEq] at h
  obtain ⟨rfl, rfl, rfl⟩ := h
  simp only [pend, wOf, List.length_nil]
  omega
 rw [if_neg c1] at h
 repeat' split at h
 all_goals (first | (cases h; done) | (simp only [Sum.inl.injEq, Prod.mk.injEq] at h; obtain ⟨rfl, rfl, rfl⟩ := h; simp only [pend, wOf, cat_app, List.length_append, List.length_nil, List.length_cons]; simp [cat]; try omega))
theorem step_bound {acc : List Tok} {st : Sc} {c : UInt8} {l : Bytes} {a : List Tok} {t : Sc} {r : Bytes} (h : step acc st c l = .inl (a, t, r)) :
  a.length + pend t + r.length ≤ acc.length + pend st + (l.length + 1) ∧ (cat a).length + (wOf t).length + r.length ≤ (cat acc).length + (wOf st).length + (l.length + 1) := by
 cases st with
 | out =>
  have := stepOut_bound h
  rw [show pend .out = 0 from rfl, show wOf .out = [] from rfl, List.length_nil]
  omega
 | atom w =>
  unfold step at h
  simp only [] at h
  by_cases ha : atomic c = true
  ·rw [if_pos ha] at h
   simp only [Sum.inl.injEq, Prod.mk.injEq] at h
   obtain ⟨rfl, rfl, rfl⟩ := h
   simp only [pend, wOf, List.length_append, List.length_cons, List.length_nil]
   omega
  rw [if_neg ha] at h
  have := stepOut_bound h
  rw [cat_app] at this
  rw [show pend (.atom w) = 1 from rfl, show wOf (.atom w) = w from rfl]
  simp only [List.length_append, List.length_cons, List.length_nil] at this ⊢
  have e : (cat [((1 : Int), w)]).length = w.length := by simp [cat]
  omega
 | quot w b =>
  cases b with
  | true =>
   unfold step at h
   simp only [] at h
   repeat' split at h
   all_goals (first | (cases h; done) | (simp only [Sum.inl.injEq, Prod.mk.injEq] at h; obtain ⟨rfl, rfl, rfl⟩ := h; simp only [pend, wOf, List.length_append, List.length_cons, List.length_nil]; omega))
  | false =>
   unfold step at h
   simp only [] at h
   by_cases c1 : foldAt (c :: l) = true
   ·rw [if_pos c1] at h
    have := tail_len c1
    simp only [Sum.inl.injEq, Prod.mk.injEq] at h
    obtain ⟨rfl, rfl, rfl⟩ := h
    simp only [pend, wOf]
    omega
   rw [if_neg c1] at h
   have e : (cat [((2 : Int), w)]).length = w.length := by simp [cat]
   repeat' split at h
   all_goals (first | (cases h; done) | (simp only [Sum.inl.injEq, Prod.mk.injEq] at h; obtain ⟨rfl, rfl, rfl⟩ := h; simp only [pend, wOf, cat_app, List.length_append, List.length_cons, List.length_nil]; omega))
 | comm d b =>
  cases b with
  | true =>
   unfold step at h
   simp only [] at h
   repeat' split at h
   all_goals (first | (cases h; done) | (simp only [Sum.inl.injEq, Prod.mk.injEq] at h; obtain ⟨rfl, rfl, rfl⟩ := h; simp only [pend, wOf, List.length_append, List.length_cons, List.length_nil]; omega))
  | false =>
   unfold step commAfter at h
   simp only [] at h
   by_cases c1 : foldAt (c :: l) = true
   ·rw [if_pos c1] at h
    have := tail_len c1
    simp only [Sum.inl.injEq, Prod.mk.injEq] at h
    obtain ⟨rfl, rfl, rfl⟩ := h
    simp only [pend, wOf]
    omega
   rw [if_neg c1] at h
   generalize (if c = 40 then d + 1 else if c = 41 then d - 1 else d) = d' at h
   repeat' split at h
   all_goals (first | (cases h; done) | (simp only [Sum.inl.injEq, Prod.mk.injEq] at h; obtain ⟨rfl, rfl, rfl⟩ := h; simp only [pend, wOf, List.length_nil]; omega))
theorem scan_bound : ∀ (k : Nat) (acc : List Tok) (st : Sc) (l : Bytes), l.length ≤ k →
  (scan k acc st l).1.length ≤ acc.length + pend st + l.length ∧ (cat (scan k acc st l).1).length ≤ (cat acc).length + (wOf st).length + l.length
 | k, acc, st, [], _ => by
  have e : scan k acc st [] = endOf acc st := by cases k <;> rfl
  rw [e]
  cases st <;> simp [endOf, pend, wOf, cat]
 | 0, acc, st, c :: l, h => by simp at h
 | k + 1, acc, st, c :: l, h => by
  rw [scan]
  simp only [List.length_cons] at h
  cases hs : step acc st c l with
  | inr e => simp [cat]
  | inl x =>
   obtain ⟨a, t, r⟩ := x
   have h1 := step_bound hs
   have h2 := step_le hs
   have ih := scan_bound k a t r (by omega)
   simp only [List.length_cons]
   omega
theorem scanL_bound (l : Bytes) : (scanL [] .out l).1.length ≤ l.length ∧ (cat (scanL [] .out l).1).length ≤ l.length := by
 have := scan_bound l.length [] .out l (Nat.le_refl _)
 unfold scanL
 simp only [List.length_nil, pend, wOf, cat, List.flatMap_nil] at this ⊢
 omega
end Go.Proofs.YtihabmcaplnbcaaDoor.Pl
set_option linter.unusedVariables false
set_option linter.unusedSimpArgs false
namespace Go.Proofs.YtihabmcaplnbcaaDoor.Pl
open Go.RowKit Go.Proofs.YtihabmcaplnbcaaDoorW.PrintWords Go.Proofs.YtihabmcaplnbcaaDoor.Fn

end Go.Proofs.YtihabmcaplnbcaaDoor.Pl
set_option linter.unusedVariables false
set_option linter.unusedSimpArgs false
namespace Go.Proofs.YtihabmcaplnbcaaDoor.Pl
open Go.RowKit Go.Proofs.YtihabmcaplnbcaaDoorW.PrintWords Go.Proofs.YtihabmcaplnbcaaDoor.Fn

/-! What is written is read again. -/
def stops (l : Bytes) : Prop := ∀ c r, l = c :: r → atomic c = false
end Go.Proofs.YtihabmcaplnbcaaDoor.Pl
set_option linter.unusedVariables false
set_option linter.unusedSimpArgs false
namespace Go.Proofs.YtihabmcaplnbcaaDoor.Pl
open Go.RowKit Go.Proofs.YtihabmcaplnbcaaDoorW.PrintWords Go.Proofs.YtihabmcaplnbcaaDoor.Fn

/-! Layer 12: what is scanned: text bytes alone; quoted text is scanned again; two texts, side by side. -/
def okTok (t : Tok) : Prop := t.1 = 3 → ∃ c, t.2 = [c]
theorem stepOut_ok {acc : List Tok} {c : UInt8} {l : Bytes} {a : List Tok} {t : Sc} {r : Bytes} (h : stepOut acc c l = .inl (a, t, r)) (ha : ∀ x ∈ acc, okTok x) : ∀ x ∈ a, okTok x := by
  unfold stepOut at h
  repeat' split at h
  all_goals first
    | (cases h; done)
    | (cases h; exact ha)
    | (cases h
       intro x hx
       rcases List.mem_append.1 hx with h1 | h1
       · exact ha x h1
       · rw [List.mem_singleton.1 h1]; exact fun _ => ⟨_, rfl⟩)
theorem okTok_add {l : List Tok} {t : Tok} (h : ∀ x ∈ l, okTok x) (ht : okTok t) : ∀ x ∈ l ++ [t], okTok x := by
  intro x hx
  rcases List.mem_append.1 hx with h1 | h1
  · exact h x h1
  · rw [List.mem_singleton.1 h1]; exact ht
theorem step_ok {acc : List Tok} {st : Sc} {c : UInt8} {l : Bytes} {a : List Tok} {t : Sc} {r : Bytes} (h : step acc st c l = .inl (a, t, r)) (ha : ∀ x ∈ acc, okTok x) : ∀ x ∈ a, okTok x := by
  cases st with
  | out => exact stepOut_ok h ha
  | atom w =>
    unfold step at h
    simp only [] at h
    split at h
    · cases h; exact ha
    · exact stepOut_ok h (okTok_add ha (fun e => by cases e))
  | quot w q =>
    cases q <;> unfold step at h <;> simp only [] at h <;> repeat' split at h
    all_goals first
      | (cases h; done)
      | (cases h; exact ha)
      | (cases h; exact okTok_add ha (fun e => by cases e))
  | comm d q =>
    cases q <;> unfold step at h <;> simp only [] at h <;> (try unfold commAfter at h) <;> repeat' split at h
    all_goals first
      | (cases h; done)
      | (cases h; exact ha)
theorem scan_ok : ∀ (k : Nat) (acc : List Tok) (st : Sc) (l : Bytes), (∀ x ∈ acc, okTok x) → ∀ x ∈ (scan k acc st l).1, okTok x
  | k, acc, st, [], ha => by
    have e : scan k acc st [] = endOf acc st := by cases k <;> rfl
    rw [e]
    cases st with
    | out => exact ha
    | atom w => exact okTok_add ha (fun e => by cases e)
    | quot w b => intro t ht; cases ht
    | comm d b => intro t ht; cases ht
  | 0, acc, st, c :: l, ha => by intro t ht; cases ht
  | k + 1, acc, st, c :: l, ha => by
    rw [scan]
    cases hs : step acc st c l with
    | inr e => intro t ht; cases ht
    | inl x =>
      obtain ⟨a, t, r⟩ := x
      exact scan_ok k a t r (step_ok hs ha)
end Go.Proofs.YtihabmcaplnbcaaDoor.Pl
set_option linter.unusedVariables false
set_option linter.unusedSimpArgs false
namespace Go.Proofs.YtihabmcaplnbcaaDoor.Pl
open Go.RowKit Go.Proofs.YtihabmcaplnbcaaDoorW.PrintWords Go.Proofs.YtihabmcaplnbcaaDoor.Fn

/-! Layer 14: boxes, by one machine over tokens. -/
abbrev BoxL := Bytes × Bytes × Bytes
abbrev StL := (List Tok × List BoxL) × Int
def stopB (c : UInt8) : Bool := c == 44 || (c == 59 || (c == 58 || (c == 60 || c == 62)))
def stopT (t : Tok) : Bool := t.1 == 3 && (match t.2 with | [c] => stopB c | _ => false)
def nonT (t : Tok) : Bool := !stopT t
def nameL (l : List Tok) : Bytes := Lib.join ((l.takeWhile wordT).map (·.2)) [32]
def failM (e : Int) : StL := (([], []), e)
def addressM (nm : Bytes) (l : List Tok) (bx : List BoxL) : StL :=
 if (ofT (l.takeWhile nonT)).2.2 ≠ 0 then failM (ofT (l.takeWhile nonT)).2.2
 else if bx.length = 100 then failM 8
 else ((l.dropWhile nonT, bx ++ [(nm, bs (ofT (l.takeWhile nonT)).1, bs (ofT (l.takeWhile nonT)).2.1)]), 0)
def angleM (x : StL) : StL := if x.2 ≠ 0 then x else if headIs x.1.1 [62] = true then ((x.1.1.tail, x.1.2), 0) else failM 130
def mailboxM (l : List Tok) (bx : List BoxL) : StL :=
 if headIs (l.dropWhile wordT) [60] = true then angleM (addressM (nameL l) (l.dropWhile wordT).tail bx) else addressM [] l bx
def groupM : Nat → List Tok → List BoxL → StL
 | 0, _, _ => failM 130
 | k + 1, l, bx => if headIs l [59] = true then ((l.tail, bx), 0)
  else if (mailboxM l bx).2 ≠ 0 then mailboxM l bx
  else if headIs (mailboxM l bx).1.1 [59] = true then groupM k (mailboxM l bx).1.1 (mailboxM l bx).1.2
  else if headIs (mailboxM l bx).1.1 [44] = true ∧ headIs (mailboxM l bx).1.1.tail [59] = false then groupM k (mailboxM l bx).1.1.tail (mailboxM l bx).1.2
  else failM 130
def itemM (l : List Tok) (bx : List BoxL) : StL :=
 if l.takeWhile wordT ≠ [] ∧ headIs (l.dropWhile wordT) [58] = true then groupM ((l.dropWhile wordT).tail.length + 1) (l.dropWhile wordT).tail bx else mailboxM l bx
def readM : Nat → List Tok → List BoxL → List BoxL × Int
 | 0, _, _ => ([], 130)
 | k + 1, l, bx => if (itemM l bx).2 ≠ 0 then ([], (itemM l bx).2)
  else if (itemM l bx).1.1 = [] then ((itemM l bx).1.2, 0)
  else if headIs (itemM l bx).1.1 [44] = true then readM k (itemM l bx).1.1.tail (itemM l bx).1.2
  else ([], 130)
def readT (l : List Tok) : List BoxL × Int := readM (l.length + 1) l []
def readL (s : Bytes) : List BoxL × Int := if (scanL [] .out s).2 ≠ 0 then ([], (scanL [] .out s).2) else readT (scanL [] .out s).1

/-! what stands behind -/
def sepC (m : List Tok) : Prop := m = [] ∨ ∃ c y, m = (3, [c]) :: y ∧ (c = 44 ∨ c = 59)
def sepM (m : List Tok) : Prop := m = [] ∨ ∃ y, m = (3, [44]) :: y
theorem sepM.c {m : List Tok} (h : sepM m) : sepC m := by
 rcases h with h | ⟨y, h⟩
 ·exact .inl h
 exact .inr ⟨44, y, h, .inl rfl⟩
theorem span_app {α : Type} (p : α → Bool) (m : List α) (hm : m = [] ∨ ∃ t r, m = t :: r ∧ p t = false) : ∀ l : List α, (l ++ m).takeWhile p = l.takeWhile p ∧ (l ++ m).dropWhile p = l.dropWhile p ++ m
 | [] => by
  rcases hm with rfl | ⟨t, r, rfl, h⟩
  ·exact ⟨rfl, rfl⟩
  simp [List.takeWhile, List.dropWhile, h]
 | x :: l => by
  obtain ⟨h1, h2⟩ := span_app p m hm l
  rw [List.cons_append, List.takeWhile_cons, List.takeWhile_cons, List.dropWhile_cons, List.dropWhile_cons, h1, h2]
  cases p x <;> simp
theorem sepC_non {m : List Tok} (h : sepC m) : m = [] ∨ ∃ t r, m = t :: r ∧ nonT t = false := by
 rcases h with h | ⟨c, y, h, hc⟩
 ·exact .inl h
 refine .inr ⟨_, _, h, ?_⟩
 rcases hc with rfl | rfl <;> rfl
theorem sepC_word {m : List Tok} (h : sepC m) : m = [] ∨ ∃ t r, m = t :: r ∧ wordT t = false := by
 rcases h with h | ⟨c, y, h, hc⟩
 ·exact .inl h
 exact .inr ⟨_, _, h, rfl⟩
theorem headIs_sep {m : List Tok} (h : sepC m) (c : UInt8) (h1 : c ≠ 44) (h2 : c ≠ 59) : headIs m [c] = false := by
 rcases h with rfl | ⟨d, y, rfl, hd⟩
 ·rfl
 show isT (3, [d]) [c] = false
 unfold isT
 rcases hd with rfl | rfl
 ·simp [Ne.symm h1]
 simp [Ne.symm h2]
theorem headIs_app {m : List Tok} (h : sepC m) (c : UInt8) (h1 : c ≠ 44) (h2 : c ≠ 59) (l : List Tok) : headIs (l ++ m) [c] = headIs l [c] := by
 cases l with
 | nil => exact headIs_sep h c h1 h2
 | cons t l => rfl
theorem headIs_appM {m : List Tok} (h : sepM m) (c : UInt8) (h1 : c ≠ 44) (l : List Tok) : headIs (l ++ m) [c] = headIs l [c] := by
 cases l with
 | nil =>
  rcases h with rfl | ⟨y, rfl⟩
  ·rfl
  show isT (3, [44]) [c] = headIs [] [c]
  simp [isT, headIs, Ne.symm h1]
 | cons t l => rfl
theorem headIs_ne {l : List Tok} {s : Bytes} (h : headIs l s = true) : ∃ t r, l = t :: r ∧ isT t s = true := by
 cases l with
 | nil => cases h
 | cons t r => exact ⟨t, r, rfl, h⟩
theorem address_more {nm : Bytes} {l l' : List Tok} {bx bx' : List BoxL} (h : addressM nm l bx = ((l', bx'), 0)) :
  ∃ x : BoxL, bx' = bx ++ [x] ∧ l'.length < l.length ∧ ∀ (m : List Tok) (b : List BoxL), sepC m → b.length < 100 → addressM nm (l ++ m) b = ((l' ++ m, b ++ [x]), 0) := by
 unfold addressM at h
 by_cases h0 : (ofT (l.takeWhile nonT)).2.2 ≠ 0
 ·rw [if_pos h0] at h; exact absurd (show (ofT (l.takeWhile nonT)).2.2 = 0 from congrArg Prod.snd h) h0
 rw [if_neg h0] at h
 by_cases h1 : bx.length = 100
 ·rw [if_pos h1] at h; cases h
 rw [if_neg h1] at h
 cases h
 refine ⟨_, rfl, ?_, fun m b hm hb => ?_⟩
 ·cases l with
  | nil => exact absurd (show (ofT (List.takeWhile nonT [])).2.2 ≠ 0 by decide) h0
  | cons t r =>
   rw [List.takeWhile_cons] at h0
   rw [List.dropWhile_cons]
   cases ht : nonT t with
   | false => rw [ht] at h0; exact absurd (show (ofT []).2.2 ≠ 0 by decide) h0
   | true => simp only [if_true, List.length_cons]; have := (List.dropWhile_suffix nonT (l := r)).length_le; omega
 obtain ⟨e1, e2⟩ := span_app nonT m (sepC_non hm) l
 unfold addressM
 rw [e1, e2, if_neg h0, if_neg (by omega)]
theorem mailbox_more {l l' : List Tok} {bx bx' : List BoxL} (h : mailboxM l bx = ((l', bx'), 0)) :
  ∃ x : BoxL, bx' = bx ++ [x] ∧ l'.length < l.length ∧ ∀ (m : List Tok) (b : List BoxL), sepC m → b.length < 100 → mailboxM (l ++ m) b = ((l' ++ m, b ++ [x]), 0) := by
 unfold mailboxM at h
 by_cases h0 : headIs (l.dropWhile wordT) [60] = true
 ·rw [if_pos h0] at h
  unfold angleM at h
  obtain ⟨t, r, hr, ht⟩ := headIs_ne h0
  rw [hr, List.tail_cons] at h
  obtain ⟨⟨⟨la, ba⟩, ea⟩, hA⟩ : ∃ x, addressM (nameL l) r bx = x := ⟨_, rfl⟩
  rw [hA] at h
  by_cases h1 : ea ≠ 0
  ·rw [if_pos h1] at h; cases h; exact absurd rfl h1
  rw [if_neg h1] at h
  have h1' : ea = 0 := by simpa using h1
  subst h1'
  by_cases h2 : headIs la [62] = true
  ·rw [if_pos h2] at h
   cases h
   obtain ⟨x, rfl, hlt, hm⟩ := address_more hA
   obtain ⟨t2, r2, hr2, ht2⟩ := headIs_ne h2
   have hlen : (l.dropWhile wordT).length ≤ l.length := (List.dropWhile_suffix wordT (l := l)).length_le
   rw [hr, List.length_cons] at hlen
   refine ⟨x, rfl, by show la.tail.length < l.length; rw [List.length_tail]; omega, fun m b hs hb => ?_⟩
   obtain ⟨e1, e2⟩ := span_app wordT m (sepC_word hs) l
   unfold mailboxM
   rw [e2, headIs_app hs 60 (by decide) (by decide), if_pos h0, hr, List.cons_append, List.tail_cons, show nameL (l ++ m) = nameL l by unfold nameL; rw [e1], hm m b hs hb]
   unfold angleM
   rw [if_neg (by simp), headIs_app hs 62 (by decide) (by decide), if_pos h2, hr2]
   rfl
  rw [if_neg h2] at h; cases h
 rw [if_neg h0] at h
 obtain ⟨x, rfl, hlt, hm⟩ := address_more h
 refine ⟨x, rfl, hlt, fun m b hs hb => ?_⟩
 obtain ⟨e1, e2⟩ := span_app wordT m (sepC_word hs) l
 unfold mailboxM
 rw [e2, headIs_app hs 60 (by decide) (by decide), if_neg h0]
 exact hm m b hs hb
theorem group_more : ∀ (k : Nat) {l l' : List Tok} {bx bx' : List BoxL}, groupM k l bx = ((l', bx'), 0) →
  ∃ d : List BoxL, bx' = bx ++ d ∧ l'.length < l.length ∧ ∀ (k' : Nat) (m : List Tok) (b : List BoxL), sepM m → l.length < k' → b.length + d.length ≤ 100 → groupM k' (l ++ m) b = ((l' ++ m, b ++ d), 0)
 | 0, l, l', bx, bx', h => by cases h
 | k + 1, l, l', bx, bx', h => by
  rw [groupM] at h
  by_cases c1 : headIs l [59] = true
  ·rw [if_pos c1] at h
   cases h
   obtain ⟨t, r, rfl, ht⟩ := headIs_ne c1
   refine ⟨[], by simp, by simp, fun k' m b hs hk hb => ?_⟩
   obtain ⟨k', rfl⟩ : ∃ j, k' = j + 1 := ⟨k' - 1, by omega⟩
   rw [groupM, if_pos (show headIs (t :: r ++ m) [59] = true from c1)]
   simp
  rw [if_neg c1] at h
  obtain ⟨⟨⟨l1, b1⟩, e1⟩, hA⟩ : ∃ x, mailboxM l bx = x := ⟨_, rfl⟩
  rw [hA] at h
  by_cases c2 : e1 ≠ 0
  ·rw [if_pos c2] at h; cases h; exact absurd rfl c2
  rw [if_neg c2] at h
  have c2' : e1 = 0 := by simpa using c2
  subst c2'
  obtain ⟨x, rfl, hlt, hm⟩ := mailbox_more hA
  simp only [] at h
  by_cases c3 : headIs l1 [59] = true
  ·rw [if_pos c3] at h
   obtain ⟨d, rfl, hl2, hg⟩ := group_more k h
   refine ⟨x :: d, by simp, by omega, fun k' m b hs hk hb => ?_⟩
   simp only [List.length_cons] at hb
   obtain ⟨k', rfl⟩ : ∃ j, k' = j + 1 := ⟨k' - 1, by omega⟩
   rw [groupM, headIs_appM hs 59 (by decide), if_neg c1, hm m b hs.c (by omega)]
   simp only []
   rw [if_neg (by simp), headIs_appM hs 59 (by decide), if_pos c3, hg k' m _ hs (by omega) (by rw [List.length_append, List.length_singleton]; omega)]
   simp
  rw [if_neg c3] at h
  by_cases c4 : headIs l1 [44] = true ∧ headIs l1.tail [59] = false
  ·rw [if_pos c4] at h
   obtain ⟨t, r, rfl, ht⟩ := headIs_ne c4.1
   obtain ⟨d, rfl, hl2, hg⟩ := group_more k h
   simp only [List.tail_cons, List.length_cons] at hl2 c4 hlt hg
   refine ⟨x :: d, by simp, by omega, fun k' m b hs hk hb => ?_⟩
   simp only [List.length_cons] at hb
   obtain ⟨k', rfl⟩ : ∃ j, k' = j + 1 := ⟨k' - 1, by omega⟩
   rw [groupM, headIs_appM hs 59 (by decide), if_neg c1, hm m b hs.c (by omega)]
   refine (if_neg (by simp)).trans ((if_neg (show ¬ headIs (t :: (r ++ m)) [59] = true from c3)).trans ((if_pos (show headIs (t :: (r ++ m)) [44] = true ∧ headIs (r ++ m) [59] = false from ⟨c4.1, by rw [headIs_appM hs 59 (by decide)]; exact c4.2⟩)).trans ?_))
   show groupM k' (r ++ m) (b ++ [x]) = _
   rw [hg k' m _ hs (by omega) (by rw [List.length_append, List.length_singleton]; omega)]
   simp
  rw [if_neg c4] at h; cases h
theorem item_more {l l' : List Tok} {bx bx' : List BoxL} (h : itemM l bx = ((l', bx'), 0)) :
  ∃ d : List BoxL, bx' = bx ++ d ∧ l'.length < l.length ∧ ∀ (m : List Tok) (b : List BoxL), sepM m → b.length + d.length ≤ 100 → itemM (l ++ m) b = ((l' ++ m, b ++ d), 0) := by
 unfold itemM at h
 by_cases c1 : l.takeWhile wordT ≠ [] ∧ headIs (l.dropWhile wordT) [58] = true
 ·rw [if_pos c1] at h
  obtain ⟨t, r, hr, ht⟩ := headIs_ne c1.2
  rw [hr, List.tail_cons] at h
  obtain ⟨d, rfl, hl, hg⟩ := group_more _ h
  have hlen : (l.dropWhile wordT).length ≤ l.length := (List.dropWhile_suffix wordT (l := l)).length_le
  rw [hr, List.length_cons] at hlen
  refine ⟨d, rfl, by omega, fun m b hs hb => ?_⟩
  obtain ⟨e1, e2⟩ := span_app wordT m (sepC_word hs.c) l
  unfold itemM
  rw [e1, e2, headIs_appM hs 58 (by decide), if_pos c1, hr, List.cons_append, List.tail_cons]
  exact hg _ m b hs (by rw [List.length_append]; omega) hb
 rw [if_neg c1] at h
 obtain ⟨x, rfl, hlt, hm⟩ := mailbox_more h
 refine ⟨[x], rfl, hlt, fun m b hs hb => ?_⟩
 obtain ⟨e1, e2⟩ := span_app wordT m (sepC_word hs.c) l
 unfold itemM
 rw [e1, e2, headIs_appM hs 58 (by decide), if_neg c1]
 exact hm m b hs.c (by simp only [List.length_cons, List.length_nil] at hb; omega)
end Go.Proofs.YtihabmcaplnbcaaDoor.Pl
set_option linter.unusedVariables false
set_option linter.unusedSimpArgs false
namespace Go.Proofs.YtihabmcaplnbcaaDoor.Pl
open Go.RowKit Go.Proofs.YtihabmcaplnbcaaDoorW.PrintWords Go.Proofs.YtihabmcaplnbcaaDoor.Fn

/-! Layer 14: what is shown is read again. -/
theorem join_one (p s : Bytes) : Lib.join [p] s = p := by simp [Lib.join, List.intercalate]
theorem join_cons2 (p q : Bytes) (r : List Bytes) (s : Bytes) : Lib.join (p :: q :: r) s = p ++ s ++ Lib.join (q :: r) s := by simp [Lib.join, List.intercalate]
theorem join_nil (s : Bytes) : Lib.join [] s = [] := by simp [Lib.join, List.intercalate]
/-! the tokens of a box -/
theorem span_all {α : Type} (p : α → Bool) (m : List α) (hm : m = [] ∨ ∃ t r, m = t :: r ∧ p t = false) (l : List α) (h : ∀ t ∈ l, p t = true) : (l ++ m).takeWhile p = l ∧ (l ++ m).dropWhile p = m := by
 obtain ⟨h1, h2⟩ := span_app p m hm l
 have e1 : l.takeWhile p = l := by
  clear h1 h2
  induction l with
  | nil => rfl
  | cons x l ih => rw [List.takeWhile_cons, h x (by simp)]; simp only [if_true]; rw [ih (fun t ht => h t (by simp [ht]))]
 have e2 : l.dropWhile p = [] := by
  clear h1 h2
  induction l with
  | nil => rfl
  | cons x l ih => rw [List.dropWhile_cons, h x (by simp)]; simp only [if_true]; exact ih (fun t ht => h t (by simp [ht])) (by rw [List.takeWhile_cons, h x (by simp)] at e1; simpa using e1)
 rw [h1, h2, e1, e2]
 exact ⟨rfl, rfl⟩
/-! shown and read -/
/-! what is read is good -/
/-! how many there are -/
theorem address_len {nm : Bytes} {l : List Tok} {bx : List BoxL} {s : List Tok × List BoxL} (hb : bx.length ≤ 100) (h : addressM nm l bx = (s, 0)) : s.2.length ≤ 100 := by
 unfold addressM at h
 by_cases h0 : (ofT (l.takeWhile nonT)).2.2 ≠ 0
 ·rw [if_pos h0] at h; exact absurd (show (ofT (l.takeWhile nonT)).2.2 = 0 from congrArg Prod.snd h) h0
 rw [if_neg h0] at h
 by_cases h1 : bx.length = 100
 ·rw [if_pos h1] at h; cases h
 rw [if_neg h1] at h
 cases h
 simp only [List.length_append, List.length_singleton]
 omega
theorem mailbox_len100 {l : List Tok} {bx : List BoxL} {s : List Tok × List BoxL} (hb : bx.length ≤ 100) (h : mailboxM l bx = (s, 0)) : s.2.length ≤ 100 := by
 unfold mailboxM at h
 by_cases h0 : headIs (l.dropWhile wordT) [60] = true
 ·rw [if_pos h0] at h
  unfold angleM at h
  obtain ⟨⟨la, ea⟩, hA⟩ : ∃ x, addressM (nameL l) (l.dropWhile wordT).tail bx = x := ⟨_, rfl⟩
  rw [hA] at h
  by_cases h1 : ea ≠ 0
  ·rw [if_pos h1] at h; cases h; exact absurd rfl h1
  rw [if_neg h1] at h
  have h1' : ea = 0 := by simpa using h1
  subst h1'
  have hg := address_len hb hA
  by_cases h2 : headIs la.1 [62] = true
  ·rw [if_pos h2] at h; cases h; exact hg
  rw [if_neg h2] at h; cases h
 rw [if_neg h0] at h
 exact address_len hb h
theorem group_len100 : ∀ (k : Nat) {l : List Tok} {bx : List BoxL} {s : List Tok × List BoxL}, bx.length ≤ 100 → groupM k l bx = (s, 0) → s.2.length ≤ 100
 | 0, l, bx, s, hb, h => by cases h
 | k + 1, l, bx, s, hb, h => by
  rw [groupM] at h
  by_cases c1 : headIs l [59] = true
  ·rw [if_pos c1] at h; cases h; exact hb
  rw [if_neg c1] at h
  obtain ⟨⟨s1, e1⟩, hA⟩ : ∃ x, mailboxM l bx = x := ⟨_, rfl⟩
  rw [hA] at h
  by_cases c2 : e1 ≠ 0
  ·rw [if_pos c2] at h; cases h; exact absurd rfl c2
  rw [if_neg c2] at h
  have c2' : e1 = 0 := by simpa using c2
  subst c2'
  have hg := mailbox_len100 hb hA
  by_cases c3 : headIs s1.1 [59] = true
  ·rw [if_pos c3] at h; exact group_len100 k hg h
  rw [if_neg c3] at h
  by_cases c4 : headIs s1.1 [44] = true ∧ headIs s1.1.tail [59] = false
  ·rw [if_pos c4] at h; exact group_len100 k hg h
  rw [if_neg c4] at h; cases h
theorem item_len100 {l : List Tok} {bx : List BoxL} {s : List Tok × List BoxL} (hb : bx.length ≤ 100) (h : itemM l bx = (s, 0)) : s.2.length ≤ 100 := by
 unfold itemM at h
 by_cases c1 : l.takeWhile wordT ≠ [] ∧ headIs (l.dropWhile wordT) [58] = true
 ·rw [if_pos c1] at h; exact group_len100 _ hb h
 rw [if_neg c1] at h; exact mailbox_len100 hb h
theorem read_len100 : ∀ (k : Nat) {l : List Tok} {bx : List BoxL}, bx.length ≤ 100 → (readM k l bx).1.length ≤ 100
 | 0, l, bx, hb => by rw [readM]; simp
 | k + 1, l, bx, hb => by
  rw [readM]
  obtain ⟨⟨s1, e1⟩, hA⟩ : ∃ x, itemM l bx = x := ⟨_, rfl⟩
  rw [hA]
  by_cases c2 : e1 ≠ 0
  ·rw [if_pos c2]; simp
  rw [if_neg c2]
  have c2' : e1 = 0 := by simpa using c2
  subst c2'
  have hg := item_len100 hb hA
  by_cases c3 : s1.1 = []
  ·rw [if_pos c3]; exact hg
  rw [if_neg c3]
  by_cases c4 : headIs s1.1 [44] = true
  ·rw [if_pos c4]; exact read_len100 k hg
  rw [if_neg c4]; simp
theorem readL_len100 (s : Bytes) : (readL s).1.length ≤ 100 := by
 unfold readL
 split
 ·simp
 exact read_len100 _ (by simp)
end Go.Proofs.YtihabmcaplnbcaaDoor.Pl
set_option linter.unusedVariables false
set_option linter.unusedSimpArgs false
namespace Go.Proofs.YtihabmcaplnbcaaDoor.Fn
open Go.RowKit Go.Proofs.YtihabmcaplnbcaaDoorW.PrintWords Go.Proofs.YtihabmcaplnbcaaDoorW.PrintLast Go.Proofs.YtihabmcaplnbcaaDoorW.PrintMore
attribute [local go_sem high] eqA107

/-! Layer 14: the reader, in memory: its block is the newest of W0; the tokens are W0's; the boxes are its own. -/
def toBox (x : Pl.BoxL) : S33 := ⟨Pl.str x.1, ⟨Pl.str x.2.1, Pl.str x.2.2⟩⟩
structure Small (l : List Pl.Tok) : Prop where
 len : l.length ≤ 50000
 sum : (Pl.cat l).length ≤ 50000
 ok : ∀ t ∈ l, Pl.okTok t
structure RS (W0 w : World) (l : List Pl.Tok) (bx : List Pl.BoxL) : Prop where
 out : ∃ (A : Option Addr) (c : Nat) (v : Value), w.heap[W0.heap.size]? = some (.cells #[.slice A l.length c, v] 65 (0, 0)) ∧ Kd.C k107 W0 A l.length (l.map Pl.tok142) ∧ l.length ≤ c ∧ Kd.R k33 33 w (W0.heap.size + 1) (fun _ => True) v (bx.map toBox)
 below : Below W0.heap.size W0 w
 small : Small l
 many : bx.length ≤ 100
 glob : Glob W0
theorem RS.lt {W0 w : World} {l : List Pl.Tok} {bx : List Pl.BoxL} (h : RS W0 w l bx) : W0.heap.size < w.heap.size := by
 obtain ⟨A, c, v, hb, _⟩ := h.out
 exact blk_lt hb
theorem RS.keep {W0 w w' : World} {l : List Pl.Tok} {bx : List Pl.BoxL} (h : RS W0 w l bx) (hb : Below w.heap.size w w') : RS W0 w' l bx := by
 obtain ⟨⟨A, c, v, h1, h2, h3, h4⟩, h5, h6, h7, h8⟩ := h
 exact ⟨⟨A, c, v, (hb.block _ (blk_lt h1)).trans h1, h2, h3, Kd.R_below h4 hb⟩, h5.trans (hb.mono h5.size), h6, h7, h8⟩
theorem RS.globw {W0 w : World} {l : List Pl.Tok} {bx : List Pl.BoxL} (h : RS W0 w l bx) : Glob w := h.glob.below h.below
theorem tok_cell {W0 w : World} {A : Option Addr} {l : List Pl.Tok} (h : Kd.C k107 W0 A l.length (l.map Pl.tok142)) (hB : Below W0.heap.size W0 w) {i : Nat} {t : Pl.Tok} {r : List Pl.Tok} (hd : l.drop i = t :: r) :
  ∃ ad, A = some ad ∧ w.cell? (ad.add (i * 2)) = some (.int .i64 t.1) ∧ w.cell? ⟨(ad.add (i * 2)).block, (ad.add (i * 2)).off + 1, none⟩ = some (.string (Pl.str t.2)) := by
 have hi : i < l.length := by
  rcases Nat.lt_or_ge i l.length with h' | h'
  ·exact h'
  rw [List.drop_of_length_le h'] at hd; cases hd
 obtain ⟨ad, e, h0, h1⟩ := at_T107 h (i : Int) (by omega) (by omega)
 have hr : rd_T107 (l.map Pl.tok142) (i : Int) = Pl.tok142 t := by
  unfold rd_T107
  have h3 : l[i]? = some t := by
   have := congrArg List.head? hd
   rw [List.head?_drop] at this
   exact this
  rw [Int.toNat_natCast, List.getD_eq_getElem?_getD, List.getElem?_map, h3]
  rfl
 rw [hr] at h0 h1
 rw [Int.toNat_natCast] at h0 h1
 exact ⟨ad, e, pw_cell_below hB h0, pw_cell_below hB h1⟩
set_option maxHeartbeats 4000000 in
set_option maxRecDepth 100000 in
theorem at_calls (W0 w : World) (l : List Pl.Tok) (bx : List Pl.BoxL) (s : ByteArray) (h : RS W0 w l bx) :
  Calls Tryd.prog 76 #[.pointer (some ⟨W0.heap.size, 0, none⟩), .string s] w fun e w' => e = .returned (.bool (Pl.headIs l (Pl.bs s))) ∧ w' = w := by
 obtain ⟨⟨A, c, v, hb, hC, hc, hR⟩, hB, hS, hM, hG⟩ := h
 have hu := Tryd.underlying107
 have hc0 : w.cell? ⟨W0.heap.size, 0, none⟩ = some (.slice A l.length c) := (blk_cell hb 0).trans rfl
 cases l with
 | nil =>
  clear hb hC hR hB hS hM hG
  generalize W0.heap.size = R at hc0 ⊢
  go_enter Tryd.func76, Tryd.ntmps76
  go_wp2
  go_ret
  exact ⟨rfl, rfl⟩
 | cons t r =>
  obtain ⟨ad, rfl, h0, h1⟩ := tok_cell hC hB (i := 0) (t := t) (r := r) rfl
  rw [Nat.zero_mul, Addr.add_zero'] at h0 h1
  clear hb hC hR hB hS hM hG
  generalize W0.heap.size = R at hc0 ⊢
  have c1 : decide ((0 : Int) < ((t :: r).length : Int)) = true := decide_eq_true (by simp only [List.length_cons]; omega)
  have c2 : ((0 : Int) < ((t :: r).length : Int)) = True := eq_true (by simp only [List.length_cons]; omega)
  have c3 : (0 < (t :: r).length) = True := eq_true (by simp)
  generalize (t :: r).length = n at hc0 hc c1 c2 c3 ⊢
  have hres : Pl.headIs (t :: r) (Pl.bs s) = (t.1 == 3 && ((Pl.str t.2).toList == s.toList)) := by
   show Pl.isT t (Pl.bs s) = _
   unfold Pl.isT
   rw [Pl.toList_str, Pl.toList_bs]
  rw [hres]
  go_enter Tryd.func76, Tryd.ntmps76
  go_wp2
  go_ret
  exact ⟨rfl, rfl⟩
theorem RS.cut {W0 w : World} {l : List Pl.Tok} {bx : List Pl.BoxL} {A : Option Addr} {c : Nat} {v : Value} (hb : w.heap[W0.heap.size]? = some (.cells #[.slice A l.length c, v] 65 (0, 0))) (hC : Kd.C k107 W0 A l.length (l.map Pl.tok142)) (hc : l.length ≤ c) (hR : Kd.R k33 33 w (W0.heap.size + 1) (fun _ => True) v (bx.map toBox))
  (hB : Below W0.heap.size W0 w) (hS : Small l) (hM : bx.length ≤ 100) (hG : Glob W0) (m : Nat) (hm : m ≤ l.length) (A' : Option Addr) (n' c' : Nat) (hA : A' = if c = m then A else A.map (·.add (m * 2))) (hn : n' = l.length - m) (hc' : c' = c - m) :
  RS W0 (w.setCell ⟨W0.heap.size, 0, none⟩ (.slice A' n' c')) (l.drop m) bx := by
 subst hA hn hc'
 have h1 := Kd.C_drop (c := c) (m := m) (show Kd.C k107 W0 A (l.map Pl.tok142).length (l.map Pl.tok142) by rw [List.length_map]; exact hC) (by rw [List.length_map]; exact hm) (by rw [List.length_map]; exact hc)
 rw [← List.map_drop, List.length_map] at h1
 refine ⟨⟨_, c - m, v, ?_, h1, by rw [List.length_drop]; omega, ?_⟩, hB.setCell (p := ⟨W0.heap.size, 0, none⟩) (Nat.le_refl _) _, ⟨?_, ?_, ?_⟩, hM, hG⟩
 ·have := blk_put hb 0 (.slice (if c = m then A else A.map (·.add (m * 2))) (l.length - m) (c - m)) rfl
  rw [List.length_drop]
  exact this
 ·exact Kd.R_mono (Kd.R_far (p := ⟨W0.heap.size, 0, none⟩) (Kd.R_bound hR) (fun k hk => by show k ≠ W0.heap.size; have := hk.2.1; omega) _) (fun _ _ => trivial)
 ·have := hS.len
  rw [List.length_drop]; omega
 ·have h2 := hS.sum
  have h3 : Pl.cat l = Pl.cat (l.take m) ++ Pl.cat (l.drop m) := by rw [← Pl.cat_app, List.take_append_drop]
  rw [h3, List.length_append] at h2
  omega
 exact fun t ht => hS.ok t (List.mem_of_mem_drop ht)
set_option maxHeartbeats 4000000 in
set_option maxRecDepth 100000 in
theorem follows_calls (W0 w : World) (l : List Pl.Tok) (bx : List Pl.BoxL) (n : Nat) (s : ByteArray) (h : RS W0 w l bx) :
  Calls Tryd.prog 73 #[.pointer (some ⟨W0.heap.size, 0, none⟩), .int .i64 n, .string s] w fun e w' => e = .returned (.bool (Pl.headIs (l.drop n) (Pl.bs s))) ∧ w' = w := by
 obtain ⟨⟨A, c, v, hb, hC, hc, hR⟩, hB, hS, hM, hG⟩ := h
 have hu := Tryd.underlying107
 have hc0 : w.cell? ⟨W0.heap.size, 0, none⟩ = some (.slice A l.length c) := (blk_cell hb 0).trans rfl
 cases hd : l.drop n with
 | nil =>
  have hl : l.length ≤ n := by
   have := congrArg List.length hd
   rw [List.length_drop, List.length_nil] at this
   omega
  have c1 : decide ((n : Int) < (l.length : Int)) = false := decide_eq_false (by omega)
  have c2 : decide (n < l.length) = false := decide_eq_false (by omega)
  clear hb hC hR hB hS hM hG hl
  generalize W0.heap.size = R at hc0 ⊢
  generalize l.length = ln at hc0 c1 c2 ⊢
  go_enter Tryd.func73, Tryd.ntmps73
  go_wp2
  go_ret
  exact ⟨rfl, rfl⟩
 | cons t r =>
  obtain ⟨ad, rfl, h0, h1⟩ := tok_cell hC hB hd
  have hl : n < l.length := by
   have := congrArg List.length hd
   rw [List.length_drop, List.length_cons] at this
   omega
  clear hb hC hR hB hM hG
  have hz := hS.len
  have c1 : decide ((n : Int) < (l.length : Int)) = true := decide_eq_true (by omega)
  have c2 : ((n : Int) < (l.length : Int)) = True := eq_true (by omega)
  have c3 : (n < l.length) = True := eq_true (by omega)
  have c4 : decide (n < l.length) = true := decide_eq_true (by omega)
  have c5 : ((0 : Int) ≤ (n : Int)) = True := eq_true (by omega)
  clear hS hz
  generalize W0.heap.size = R at hc0 ⊢
  generalize l.length = ln at hc0 hc hl c1 c2 c3 c4 ⊢
  have hres : Pl.headIs (t :: r) (Pl.bs s) = (t.1 == 3 && ((Pl.str t.2).toList == s.toList)) := by
   show Pl.isT t (Pl.bs s) = _
   unfold Pl.isT
   rw [Pl.toList_str, Pl.toList_bs]
  rw [hres]
  go_enter Tryd.func73, Tryd.ntmps73
  go_wp2
  go_ret
  exact ⟨rfl, rfl⟩
set_option maxHeartbeats 4000000 in
set_option maxRecDepth 100000 in
theorem take_calls (W0 w : World) (l : List Pl.Tok) (bx : List Pl.BoxL) (s : ByteArray) (h : RS W0 w l bx) :
  Calls Tryd.prog 35 #[.pointer (some ⟨W0.heap.size, 0, none⟩), .string s] w fun e w' => e = .returned (.bool (Pl.headIs l (Pl.bs s))) ∧ RS W0 w' (if Pl.headIs l (Pl.bs s) = true then l.tail else l) bx := by
 have hat := at_calls W0 w l bx s h
 have H := Aside0.mk h
 obtain ⟨⟨A, c, v, hb, hC, hc, hR⟩, hB, hS, hM, hG⟩ := h
 have hc0 : w.cell? ⟨W0.heap.size, 0, none⟩ = some (.slice A l.length c) := (blk_cell hb 0).trans rfl
 have hf0 := blk_frozen hb 0
 cases hq : Pl.headIs l (Pl.bs s) with
 | false =>
  rw [hq] at hat
  clear hb hC hR hB hS hM hG hc0 hf0
  generalize hW : W0.heap.size = R at hat ⊢
  go_enter Tryd.func35, Tryd.ntmps35
  go_wp2_with (go_at_call 76; refine hat.mono ?_; rintro e w' ⟨rfl, rfl⟩)
  go_ret
  exact ⟨rfl, H.out⟩
 | true =>
  rw [hq] at hat
  obtain ⟨t, r, rfl, ht⟩ := Pl.headIs_ne hq
  obtain ⟨ad, rfl, h0, h1⟩ := tok_cell hC hB (i := 0) (t := t) (r := r) rfl
  have c1 : ((1 : Int) ≤ ((t :: r).length : Int)) = True := eq_true (by simp only [List.length_cons]; omega)
  have c2 : (((t :: r).length : Int) ≤ (c : Int)) = True := eq_true (by omega)
  have c3 : ((1 : Int) ≤ (c : Int)) = True := eq_true (by simp only [List.length_cons] at hc; omega)
  have c4 : (1 ≤ (t :: r).length) = True := eq_true (by simp)
  have c5 : ((t :: r).length ≤ c) = True := eq_true hc
  have c6 : (1 ≤ c) = True := eq_true (by simp only [List.length_cons] at hc; omega)
  have HC := Aside0.mk (fun A' n' c' h1 h2 h3 => RS.cut hb hC hc hR hB hS hM hG 1 (by simp) A' n' c' h1 h2 h3)
  have hcc := Aside0.mk hc
  clear hb hC hR hB hS hM hG h0 h1 hc
  clear H
  generalize hn : (t :: r).length = n at hat hc0 c1 c2 c4 c5 HC hcc ⊢
  generalize hW : W0.heap.size = R at hat hc0 hf0 HC ⊢
  go_enter Tryd.func35, Tryd.ntmps35
  go_wp2_with (go_at_call 76; refine hat.mono ?_; rintro e w' ⟨rfl, rfl⟩)
  all_goals
   go_ret
   exact ⟨rfl, HC.out _ _ _ (by first | rfl | (simp [*]; done) | (simp [*]; rfl)) (by first | rfl | (simp; done) | omega) (by first | rfl | (simp; done) | omega)⟩
end Go.Proofs.YtihabmcaplnbcaaDoor.Fn
set_option linter.unusedVariables false
set_option linter.unusedSimpArgs false
namespace Go.Proofs.YtihabmcaplnbcaaDoor.Fn
open Go.RowKit Go.Proofs.YtihabmcaplnbcaaDoorW.PrintWords Go.Proofs.YtihabmcaplnbcaaDoorW.PrintLast Go.Proofs.YtihabmcaplnbcaaDoorW.PrintMore
attribute [local go_sem high] eqA107


/-! Layer 14: how many words stand at the front, and what they say -/
theorem join_len : ∀ l : List Pl.Tok, (Lib.join (l.map (·.2)) [32]).length ≤ (Pl.cat l).length + l.length
 | [] => by simp [Pl.join_nil]
 | [t] => by rw [List.map_cons, List.map_nil, Pl.join_one]; simp [Pl.cat]
 | t :: u :: r => by
  have ih := join_len (u :: r)
  have e : Pl.cat (t :: u :: r) = t.2 ++ Pl.cat (u :: r) := by simp [Pl.cat]
  have e2 : Lib.join ((t :: u :: r).map (·.2)) [32] = t.2 ++ [32] ++ Lib.join ((u :: r).map (·.2)) [32] := Pl.join_cons2 _ _ _ _
  rw [e2, e]
  simp only [List.length_append, List.length_cons, List.length_nil] at ih ⊢
  omega
def txs (l : List Pl.Tok) : List ByteArray := l.map fun t => Pl.str t.2
theorem join_call (l : List Pl.Tok) (hS : Small l) (i : Nat) (b : Nat) (W : World) (v : Value) (h : Kd.R Kd.string 9 W b (fun _ => True) v (txs (l.take i))) :
  ∃ A c n q, v = .slice A n c ∧ Hid (n = (l.take i).length) ∧ Hid (q = Pl.str (Lib.join ((l.take i).map (·.2)) [32])) ∧ Hid (∀ W1, Below W.heap.size W W1 → Calls Tryd.prog 70 #[.slice A n c, .string ⟨#[32]⟩] W1 fun e w' => e = .returned (.string q) ∧ Below W1.heap.size W1 w') := by
 obtain ⟨A, c, rfl⟩ := Kd.R_slice h
 have hlen : (txs (l.take i)).length = (l.take i).length := List.length_map _
 refine ⟨A, c, _, _, by rw [hlen], hid rfl, hid rfl, hid (fun W1 hW1 => ?_)⟩
 obtain ⟨-, hc, hC⟩ := Kd.R_reads' h
 have hl : (l.take i).length ≤ 50000 := Nat.le_trans (by rw [List.length_take]; omega) hS.len
 have hs : (Pl.cat (l.take i)).length ≤ 50000 := by
  have h2 := hS.sum
  have h3 : Pl.cat l = Pl.cat (l.take i) ++ Pl.cat (l.drop i) := by rw [← Pl.cat_app, List.take_append_drop]
  rw [h3, List.length_append] at h2
  omega
 have hj : Pl.join (txs (l.take i)) ⟨#[32]⟩ = Pl.str (Lib.join ((l.take i).map (·.2)) [32]) := by
  unfold Pl.join txs
  rw [List.map_map]
  exact congrArg Pl.str (congrArg (Lib.join · [32]) (List.map_congr_left (fun t _ => Pl.bs_str t.2)))
 have hjl := join_len (l.take i)
 have := strings_Join.calls A c (txs (l.take i)) ⟨#[32]⟩ (Pl.join (txs (l.take i)) ⟨#[32]⟩) W1 (Kd.C_below hC hW1) hc (by
  unfold strings_Join.f
  rw [if_pos (by rw [hlen]; omega), if_pos (by rw [hj, Pl.str_size]; omega)])
 rw [hlen, hj] at this
 exact this
theorem take_while {l : List Pl.Tok} {i : Nat} (h : (l.take i).all Pl.wordT = true) (h2 : l.drop i = [] ∨ ∃ t r, l.drop i = t :: r ∧ Pl.wordT t = false) : l.takeWhile Pl.wordT = l.take i := by
 have := (Pl.span_all Pl.wordT (l.drop i) h2 (l.take i) (fun t ht => List.all_eq_true.1 h t ht)).1
 rwa [List.take_append_drop] at this
set_option maxHeartbeats 8000000 in
set_option maxRecDepth 100000 in
theorem words_calls (W0 w : World) (l : List Pl.Tok) (bx : List Pl.BoxL) (h : RS W0 w l bx) :
  Calls Tryd.prog 72 #[.pointer (some ⟨W0.heap.size, 0, none⟩)] w fun e w' => e = .returned (.tuple #[.int .i64 ((l.takeWhile Pl.wordT).length : Nat), .string (Pl.str (Pl.nameL l))]) ∧ Below w.heap.size w w' := by
 obtain ⟨⟨A, c, v, hb, hC, hc, hR⟩, hB, hS, hM, hG⟩ := h
 have hu := Tryd.underlying107
 have hc0 : w.cell? ⟨W0.heap.size, 0, none⟩ = some (.slice A l.length c) := (blk_cell hb 0).trans rfl
 have HC := hid hC
 have HB0 := hid hB
 have HS := hid hS
 have hz := hS.len
 clear hb hC hR hB hS hM hG
 go_enter Tryd.func72, Tryd.ntmps72
 go_wp2
 go_loopw [4, 12] (fun v4 v12 wr => ∃ i : Nat, v12 = .int .i64 i ∧ i ≤ l.length ∧ Hid ((l.take i).all Pl.wordT = true) ∧ Hid (Kd.R Kd.string 9 wr w.heap.size (fun _ => True) v4 (txs (l.take i))) ∧ Hid (Below w.heap.size w wr)) (fun _ v12 _ => l.length - (intOf v12).toNat)
 case atStart => exact ⟨0, rfl, Nat.zero_le _, hid rfl, hid (Kd.R_nil _ _ _ _ _), hid (Below.refl _ _)⟩
 case round =>
  obtain ⟨i, rfl, hi, HW, HR, HBw⟩ := hrel
  cases hd : l.drop i with
  | nil =>
   have hl : l.length ≤ i := by
    have := congrArg List.length hd
    rw [List.length_drop, List.length_nil] at this
    omega
   have c1 : decide ((i : Int) < (l.length : Int)) = false := decide_eq_false (by omega)
   have c1n : decide (i < l.length) = false := decide_eq_false (by omega)
   obtain ⟨A2, c2, n2, q2, rfl, hn2, hq2, hj⟩ := join_call l HS.out i _ wr _ HR.out
   have htw := hid (take_while HW.out (.inl hd))
   clear hl hz hi hd hc
   go_wp2_with (go_at_call 70; refine (hj.out _ (Below.refl _ _)).mono ?_; rintro e w' ⟨rfl, hb'⟩)
   go_ret2
   refine ⟨?_, HBw.out.trans (hb'.mono HBw.out.size)⟩
   unfold Pl.nameL
   rw [htw.out, hn2.out, hq2.out]
   rfl
  | cons t r =>
   have hl : i < l.length := by
    have := congrArg List.length hd
    rw [List.length_drop, List.length_cons] at this
    omega
   obtain ⟨ad, rfl, h0, h1⟩ := tok_cell HC.out (HB0.out.trans (HBw.out.mono HB0.out.size)) hd
   have c1 : decide ((i : Int) < (l.length : Int)) = true := decide_eq_true (by omega)
   have c1n : decide (i < l.length) = true := decide_eq_true (by omega)
   have c2 : ((i : Int) < (l.length : Int)) = True := eq_true (by omega)
   have c3 : (i < l.length) = True := eq_true (by omega)
   have c5 : ((0 : Int) ≤ (i : Int)) = True := eq_true (by omega)
   have hsnoc : l.take (i + 1) = l.take i ++ [t] := by
    rw [List.take_succ_eq_append_getElem hl]
    congr 2
    have := List.getElem?_drop (xs := l) (i := i) (j := 0)
    rw [hd] at this
    simpa [List.getElem?_eq_getElem hl] using this.symm
   have HSN := hid hsnoc
   have HD := hid hd
   clear hsnoc hd
   by_cases hk : t.1 = 3
   ·obtain ⟨A2, c2', n2, q2, rfl, hn2, hq2, hj⟩ := join_call l HS.out i _ wr _ HR.out
    have htw := hid (take_while HW.out (.inr ⟨t, r, HD.out, by unfold Pl.wordT; rw [hk]; rfl⟩))
    rw [hk] at h0
    go_wp2_with (first
     | ((with_reducible refine gate_dst (N := 6) rfl ?_); refine box_event ?hg (N := 6) ?hd (cs := #[.int .i64 0, .string (⟨#[]⟩ : ByteArray)]) (t := 107) ?hr ?_; (case hd => rfl); (case hg => rfl); (case hr => first | (go_simp; done) | (go_simp; rfl)); intro g hg w7 hbox hb; have b0 := (blk_cell hbox 0).trans rfl; have b1 := (blk_cell hbox 1).trans rfl; have bf0 := blk_frozen hbox 0; have bf1 := blk_frozen hbox 1; have HBX := hid hb; have HG := hid hg; clear hb hbox hg)
     | (go_at_call 70; have hB1 : Below wr.heap.size wr ((w7.setCell ⟨g, 0, none⟩ (.int .i64 3)).setCell ⟨g, 1, none⟩ (.string (Pl.str t.2))) := (HBX.out.setCell (p := ⟨g, 0, none⟩) (Nat.le_of_eq HG.out.symm) _).setCell (p := ⟨g, 1, none⟩) (Nat.le_of_eq HG.out.symm) _; refine (hj.out _ hB1).mono ?_; rintro e w' ⟨rfl, hb'⟩))
    go_ret2
    refine ⟨?_, HBw.out.trans ((hB1.trans (hb'.mono hB1.size)).mono HBw.out.size)⟩
    unfold Pl.nameL
    rw [htw.out, hn2.out, hq2.out]
    rfl
   have k1 : (t.1 == 3) = false := beq_eq_false_iff_ne.2 hk
   have hp : Hid (Pl.wordT t = true) := hid (by unfold Pl.wordT; exact bne_iff_ne.2 hk)
   have hlen : (txs (l.take i)).length = i := by rw [txs, List.length_map, List.length_take]; omega
   go_wp2_with (first
    | ((with_reducible refine gate_dst (N := 6) rfl ?_); refine box_event ?hg (N := 6) ?hd (cs := #[.int .i64 0, .string (⟨#[]⟩ : ByteArray)]) (t := 107) ?hr ?_; (case hd => rfl); (case hg => rfl); (case hr => first | (go_simp; done) | (go_simp; rfl)); intro g hg w7 hbox hb; have b0 := (blk_cell hbox 0).trans rfl; have b1 := (blk_cell hbox 1).trans rfl; have bf0 := blk_frozen hbox 0; have bf1 := blk_frozen hbox 1; have HGL := hid (blk_lt hbox); have HBW := hid (((HBw.out.trans (hb.mono HBw.out.size)).setCell (p := ⟨g, 0, none⟩) (show w.heap.size ≤ g by have := HBw.out.size; omega) (.int .i64 t.1)).setCell (p := ⟨g, 1, none⟩) (show w.heap.size ≤ g by have := HBw.out.size; omega) (.string (Pl.str t.2))); have HBX := hid hb; have HG := hid hg; clear hb hbox hg)
    | ((with_reducible refine gate_builtin (b := .append) (xs := #[.tmp 19, .tmp 22]) rfl ?_); at_builtin; refine Kd.R_append Kd.string (w0 := w) w.heap.size rfl (.tmp 19) (.tmp 22) 43 9 (.string ⟨#[]⟩) 16 rfl Tryd.underlying43 info9 rfl (by decide) (by omega) u4 (txs (l.take i)) (Pl.str t.2) [.string (Pl.str t.2)] (fun k => k ≠ g) (fun _ => False) rfl (by first | rfl | (go_simp; done) | (go_simp; rfl)) ?aP (fun _ hk => hk.elim) ?aF ?aO ?aB ?aS ?aL ?_; (case aP => exact rfl); (case aF => exact (fun k hk => by have h2 : w7.heap.size ≤ k := (by simpa using hk); have := HGL.out; show k ≠ g; omega)); (case aO => exact Kd.R_far (p := ⟨g, 1, none⟩) (Kd.R_far (p := ⟨g, 0, none⟩) (Kd.R_below (Kd.R_mono (Kd.R_bound HR.out) (fun k hk => by have := hk.2.2.1; have := HG.out; show k ≠ g; omega)) HBX.out) (fun _ hk => hk) _) (fun _ hk => hk) _); (case aB => exact HBW.out); (case aS => exact HBW.out.size); (case aL => rw [hlen]; omega); intro v1 w1 ho hb1 hg1 hat1; have HO1 := hid ho; have HB1 := hid hb1; clear ho hb1 hg1 hat1))
   go_roundw
   case rel =>
    exact ⟨i + 1, by go_num, by omega, hid (by rw [HSN.out, List.all_append, HW.out]; simpa using hp.out), hid (by rw [HSN.out]; unfold txs; rw [List.map_append]; exact Kd.R_mono HO1.out (fun _ _ => trivial)), HB1⟩
   case measure => simp [intOf]; omega
end Go.Proofs.YtihabmcaplnbcaaDoor.Fn
