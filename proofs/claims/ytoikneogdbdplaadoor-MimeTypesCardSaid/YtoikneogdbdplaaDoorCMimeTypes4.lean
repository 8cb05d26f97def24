/- A part of the proof of this sentence: the tables of unicode/utf8 are as the program's text lays them. -/
import Derived.Test.YtoikneogdbdplaaDoorCMimeTypes3
namespace Go.Proofs.YtoikneogdbdplaaDoor.Fn
open Go.RowKit Go.Proofs.YtoikneogdbdplaaDoorW.PrintWords Go.Proofs.YtoikneogdbdplaaDoorW.PrintLast Go.Proofs.YtoikneogdbdplaaDoorW.PrintMore
attribute [local go_sem] max2_int min2_int max_two min_two max_three min_three max_four min_four
set_option linter.unusedVariables false
set_option linter.unusedSimpArgs false

mutual
def bulletinref20_ReadType.l0 : Nat → List (S109) → List ByteArray → ByteArray → Int → Option (ByteArray × (List (S97)) × Bool)
 | 0, _, _, _, _ => none
 | k + 1, x4, x6, x7, x8 => if x8 < (x4.length : Int) then (if 0 ≤ x8 then (if ((rd_T109 x4 x8).f0) = 3 then (if ((rd_T109 x4 x8).f1).toList = ([59] : List UInt8) then (if x6.length < 8796093022208 then (bulletinref20_ReadType.l0 k x4 (x6 ++ [x7]) (⟨#[]⟩ : ByteArray) (wrap64 (x8 + 1))) else (none)) else (if x7.size + ((rd_T109 x4 x8).f1).size ≤ 9223372036854775807 then (bulletinref20_ReadType.l0 k x4 x6 (x7 ++ ((rd_T109 x4 x8).f1)) (wrap64 (x8 + 1))) else (none))) else (if x7.size + ((rd_T109 x4 x8).f1).size ≤ 9223372036854775807 then (bulletinref20_ReadType.l0 k x4 x6 (x7 ++ ((rd_T109 x4 x8).f1)) (wrap64 (x8 + 1))) else (none))) else (none)) else (if x6.length < 8796093022208 then ((some (x6 ++ [x7] : List ByteArray)).bind fun y452 => (if 0 < (y452.length : Int) then ((bulletinref12_IsAtom.f k (rdOf ByteArray.empty y452 0)).bind fun t456 => (if t456 = true then ((bulletinref20_has.f k (rdOf ByteArray.empty y452 0) 47).bind fun t457 => (if t457 = 1 then (if 0 < ((rdOf ByteArray.empty y452 0).size : Int) then (if (bt (rdOf ByteArray.empty y452 0) 0) = 47 then (bulletinref20_ReadType.j1 k y452 (rdOf ByteArray.empty y452 0) true) else (if 0 ≤ (wrap64 (((rdOf ByteArray.empty y452 0).size : Int) - 1)) then (if (wrap64 (((rdOf ByteArray.empty y452 0).size : Int) - 1)) < ((rdOf ByteArray.empty y452 0).size : Int) then (bulletinref20_ReadType.j1 k y452 (rdOf ByteArray.empty y452 0) ((bt (rdOf ByteArray.empty y452 0) (wrap64 (((rdOf ByteArray.empty y452 0).size : Int) - 1))) == 47)) else (none)) else (none))) else (none)) else (bulletinref20_ReadType.j1 k y452 (rdOf ByteArray.empty y452 0) true))) else (bulletinref20_ReadType.j1 k y452 (rdOf ByteArray.empty y452 0) true))) else (none))) else (none))
def bulletinref20_ReadType.j1 : Nat → List ByteArray → ByteArray → Bool → Option (ByteArray × (List (S97)) × Bool)
 | 0, _, _, _ => none
 | k + 1, x6, x9, x80 => if x80 = true then (some ((⟨#[]⟩ : ByteArray), ([] : List (S97)), false)) else ((bulletinref06_Fold.f k x9).bind fun t458 => (bulletinref20_ReadType.l1 k x6 1 t458 ([] : List (S97))))
def bulletinref20_ReadType.l1 : Nat → List ByteArray → Int → ByteArray → List (S97) → Option (ByteArray × (List (S97)) × Bool)
 | 0, _, _, _, _ => none
 | k + 1, x6, x11, x460000, x460001 => if x11 < (x6.length : Int) then (if 0 ≤ x11 then ((bulletinref13_Split.f k (rdOf ByteArray.empty x6 x11) 61).bind fun t461 => (if 0 < (t461.length : Int) then (if ((rdOf ByteArray.empty t461 0).size : Int) = ((rdOf ByteArray.empty x6 x11).size : Int) then (some ((⟨#[]⟩ : ByteArray), ([] : List (S97)), false)) else (if 0 ≤ ((rdOf ByteArray.empty t461 0).size : Int) then (if ((rdOf ByteArray.empty t461 0).size : Int) ≤ ((rdOf ByteArray.empty x6 x11).size : Int) then ((bulletinref12_IsAtom.f k ((rdOf ByteArray.empty x6 x11).extract 0 (((rdOf ByteArray.empty t461 0).size : Int) : Int).toNat)).bind fun t465 => (if t465 = true then ((bulletinref06_Fold.f k ((rdOf ByteArray.empty x6 x11).extract 0 (((rdOf ByteArray.empty t461 0).size : Int) : Int).toNat)).bind fun t466 => (if 0 ≤ (wrap64 (((rdOf ByteArray.empty t461 0).size : Int) + 1)) then (if (wrap64 (((rdOf ByteArray.empty t461 0).size : Int) + 1)) ≤ ((rdOf ByteArray.empty x6 x11).size : Int) then (if x460001.length < 4398046511104 then (bulletinref20_ReadType.l1 k x6 (wrap64 (x11 + 1)) x460000 (x460001 ++ [(⟨t466, (rdOf ByteArray.empty x6 x11).extract ((wrap64 (((rdOf ByteArray.empty t461 0).size : Int) + 1)) : Int).toNat (rdOf ByteArray.empty x6 x11).size⟩ : S97)])) else (none)) else (none)) else (none))) else (some ((⟨#[]⟩ : ByteArray), ([] : List (S97)), false)))) else (none)) else (none))) else (none))) else (none)) else (some (x460000, x460001, true))
end
def bulletinref20_ReadType.f (k : Nat) (a0 : ByteArray) : Option (ByteArray × (List (S97)) × Bool) := (bulletinref12_Scan.f k a0).bind fun bt441 => (if bt441.2 = 0 then (bulletinref20_ReadType.l0 k bt441.1 ([] : List ByteArray) (⟨#[]⟩ : ByteArray) 0) else (some ((⟨#[]⟩ : ByteArray), ([] : List (S97)), false)))
def bulletinref20_ReadType.T25 : Bool × List (List Nat × List Nat) := (true, [([], []), ([0], [0]), ([], []), ([], []), ([2, 3], [2, 3]), ([4], [4]), ([], []), ([], []), ([7], [7]), ([6, 8], [6, 8]), ([5, 9], [5, 9]), ([10], [10]), ([1, 11, 5], [1, 11]), ([0, 1, 2, 3, 4, 5, 6, 7, 8, 9, 10, 11, 12], []), ([13, 12, 12, 0, 1, 2, 3, 4, 5, 6, 7, 8, 9, 10, 11, 12], [12, 13])])
def bulletinref20_ReadType.B25 : List Nat := [0, 1, 0, 0, 12, 28, 0, 0, 128, 448, 1020, 2044, 4095, 8191, 16383]
theorem bulletinref20_ReadType.tab25 : rtab .any (opsOf Tryd.f28 25) = bulletinref20_ReadType.T25 := by kernel_rfl
theorem bulletinref20_ReadType.bits25 : waitsOk bulletinref20_ReadType.T25.2 bulletinref20_ReadType.B25 = true := by kernel_rfl
set_option maxHeartbeats 8000000 in
set_option maxRecDepth 100000 in
theorem bulletinref20_ReadType.calls (k : Nat) (a0 : ByteArray) (r1 : ByteArray) (r2 : List (S97)) (r3 : Bool) (w : World) (h : bulletinref20_ReadType.f k a0 = some (r1, r2, r3)) :
  Calls Tryd.prog 28 #[.string a0] w fun e w' => ∃ v1_ : Value, e = .returned (.tuple #[.agg #[.string r1, v1_], .bool r3]) ∧ Kd.R k97 97 w' w.heap.size (fun _ => True) v1_ r2 ∧ Below w.heap.size w w' := by
 have hu47 := Tryd.underlying47; have hu97 := Tryd.underlying97; have HB := Aside0.mk (Below.refl w.heap.size w); have H : ((bulletinref12_Scan.f k a0).bind fun bt441 => (if bt441.2 = 0 then (bulletinref20_ReadType.l0 k bt441.1 ([] : List ByteArray) (⟨#[]⟩ : ByteArray) 0) else (some ((⟨#[]⟩ : ByteArray), ([] : List (S97)), false)))) = some (r1, r2, r3) := h; clear h; replace H := Option.bind_eq_some_iff.mp H; obtain ⟨⟨t441, t442⟩, A20, H⟩ := H; replace H : (if t442 = 0 then (bulletinref20_ReadType.l0 k t441 ([] : List ByteArray) (⟨#[]⟩ : ByteArray) 0) else (some ((⟨#[]⟩ : ByteArray), ([] : List (S97)), false))) = some (r1, r2, r3) := H; have A2 := Aside0.mk A20; clear A20
 by_cases c3 : t442 = 0
 ·rw [if_pos c3] at H; have c3b0 : (t442 == 0) = true := beq_iff_eq.mpr c3; have c3b1 : (t442 != 0) = false := bne_eq_false_iff_eq.mpr c3; clear c3; have H' := Aside0.mk H; clear H
  go_enter Tryd.func28, Tryd.ntmps28
  go_wp2_with (first | ((with_reducible refine gate_dst (N := 2) rfl ?_); (try (refine gate_guard (by rfl) ?_; dsimp only)); refine box_event ?hg (N := 2) ?hd (cs := #[.string (⟨#[]⟩ : ByteArray), .slice none 0 0]) (t := 47) ?hr ?_; (case hd => rfl); (case hg => rfl); (case hr => first | (go_simp; done) | (go_simp; rfl)); intro gb440 hg w4 hbox hb; have n0_ := Aside0.mk (below_step bw hb); have n1_ := Aside0.mk (hbox); have n2_ := Aside0.mk ((by rw [hg]; exact (below_size bw) : w.heap.size ≤ gb440)); have n3_ := Aside0.mk ((by rw [hg]; exact (below_size bw) : w.heap.size ≤ gb440)); clear HB; have HB := n0_; have BK440 := n1_; have GW440 := n2_; have GE440 := n3_; clear n0_ n1_ n2_ n3_; clear hb hbox hg) | ((with_reducible refine gate_callee (f := 67) rfl ?_); refine goesL_ (some 16) rfl rfl Tryd.func67 (by kernel_rfl) rfl #[.string a0] rfl am ?_; (with_reducible refine (bulletinref12_Scan.calls k a0 t441 t442 _ A2.out).mono ?_); rintro e w5 ⟨v443, rfl, ho0, hb⟩; refine ⟨_, rfl, ?_⟩; have n0_ := Aside0.mk (Kd.R_lower ho0 (below_size bwS)); have n1_ := Aside0.mk (blk_below (g := gb440) (o := .cells #[.string (⟨#[]⟩ : ByteArray), .slice none 0 0] 47 (0, 0)) bk hb); have n2_ := Aside0.mk (below_step bwS hb); clear BK440; clear HB; have HO444 := n0_; have BK440 := n1_; have HB := n2_; clear n0_ n1_ n2_; (try clear hb); (try clear hb2); (try clear hk); (try clear hi); (try clear ho0)))
  go_loopg [6, 7, 8] k (fun kq v6 v7 v8 w' => ∃ (x6_1 : List ByteArray) (x7_1 : ByteArray) (x8_1 : Int), v7 = .string x7_1 ∧ v8 = .int .i64 x8_1 ∧ Aside0 (bulletinref20_ReadType.l0 kq t441 x6_1 x7_1 x8_1 = some (r1, r2, r3)) ∧ Aside0 (kq ≤ k) ∧ Aside0 (Kd.R k109 109 w' w.heap.size (fun _ => True) v443 t441) ∧ Aside0 (Kd.R Kd.string 9 w' w.heap.size (fun _ => True) v6 x6_1) ∧ Aside0 (w'.heap[gb440]? = some (.cells #[.string (⟨#[]⟩ : ByteArray), (.slice none 0 0)] 47 (0, 0))) ∧ Aside0 (Below w.heap.size w w'))
  case atStart => exact ⟨(([] : List ByteArray)), ((⟨#[]⟩ : ByteArray)), (0), cl, cl, H', ⟨Nat.le_refl _⟩, ⟨by (with_reducible repeat (first | apply Kd.R_alloc | apply Kd.R_drewN | apply Kd.R_drew)); exact HO444.out⟩, ⟨by first | exact Kd.R_nil _ _ _ _ _ | exact Kd.N_nil _ _ _ _ _ | exact Kd.V_nil _ _ _ _ _ | exact Kd.Q_nil _ _ _ _ _ | exact Kd.S_nil _ _ _ _ _⟩, ⟨bk⟩, ⟨bwS⟩⟩
  case round =>
   clear H'
   try clear c2
   try clear p2
   try clear c3
   try clear c3b0
   try clear c3b1
   obtain ⟨x6_1, x7_1, x8_1, rfl, rfl, HA, HK1, HO_4, HO_6, BK440, HB⟩ := hrel; cases gk with
   | zero => exact absurd HA.out (by simp [bulletinref20_ReadType.l0])
   | succ k1 =>
    have H := HA.out; clear HA; simp only [bulletinref20_ReadType.l0] at H
    by_cases c6 : x8_1 < (t441.length : Int)
    ·rw [if_pos c6] at H; have c6b0 : decide (x8_1 < (t441.length : Int)) = true := decide_eq_true c6; clear c6
     by_cases c7 : 0 ≤ x8_1
     ·rw [if_pos c7] at H; have c7b0 : decide (0 ≤ x8_1) = true := decide_eq_true c7; clear c7
      by_cases c8 : ((rd_T109 t441 x8_1).f0) = 3
      ·rw [if_pos c8] at H; have c8b0 : (((rd_T109 t441 x8_1).f0) == 3) = true := beq_iff_eq.mpr c8; have c8b1 : (((rd_T109 t441 x8_1).f0) != 3) = false := bne_eq_false_iff_eq.mpr c8; clear c8
       by_cases c9 : ((rd_T109 t441 x8_1).f1).toList = ([59] : List UInt8)
       ·rw [if_pos c9] at H; have c9b0 : (((rd_T109 t441 x8_1).f1).toList == ([59] : List UInt8)) = true := beq_iff_eq.mpr c9; have c9b1 : (((rd_T109 t441 x8_1).f1).toList != ([59] : List UInt8)) = false := bne_eq_false_iff_eq.mpr c9; clear c9
        by_cases c10 : x6_1.length < 8796093022208
        ·rw [if_pos c10] at H; have LMc10 := Aside0.mk c10; clear c10; obtain ⟨y447, hy447⟩ : ∃ y_ : List ByteArray, y_ = (x6_1 ++ [x7_1]) := ⟨_, rfl⟩
         replace H : (bulletinref20_ReadType.l0 k1 t441 y447 (⟨#[]⟩ : ByteArray) (wrap64 (x8_1 + 1))) = some (r1, r2, r3) := by first | (rw [hy447]; with_reducible exact H) | (have H2_ := (Option.bind_some _ _).symm.trans H; rw [hy447]; with_reducible exact H2_) | (have H2_ := (Option.bind_some _ _).symm.trans H; with_reducible exact H2_) | with_reducible exact H | (rw [hy447]; exact H) | exact H
         have Ny447 := Aside0.mk hy447; clear hy447; have H' := Aside0.mk H; clear H; obtain ⟨Ao11, co11, eo11⟩ := Kd.R_slice HO_4.out; subst eo11; have p445 : 0 ≤ (x8_1 : Int) := od; have q445 : x8_1 < (t441.length : Int) := od; obtain ⟨ad445, e445, hx445_0, hx445_1⟩ := at_T109 (Kd.R_reads' HO_4.out).2.2 x8_1 p445 q445; cases e445; replace p445 := eq_true p445; replace q445 := eq_true q445; have p446 : 0 ≤ (x8_1 : Int) := od; have q446 : x8_1 < (t441.length : Int) := od; obtain ⟨ad446, e446, hx446_0, hx446_1⟩ := at_T109 (Kd.R_reads' HO_4.out).2.2 x8_1 p446 q446; obtain rfl : ad445 = ad446 := (by injection e446)
         replace p446 := eq_true p446; replace q446 := eq_true q446
         go_wp2_with (first | ((with_reducible refine gate_builtin (b := .append) (xs := #[.tmp 42, .tmp 44]) rfl ?_); (try (refine gate_guard (by rfl) ?_; dsimp only)); at_builtin; refine Kd.R_append Kd.string (w0 := w) w.heap.size rfl (.tmp 42) (.tmp 44) 32 9 (.string ⟨#[]⟩) 16 rfl Tryd.underlying32 info9 rfl (by decide) (by omega) u6 x6_1 x7_1 [.string x7_1] (fun _ => True) (fun _ => False) rfl rfl ?aP (fun _ hk => hk.elim) ?aF ?aO ?aB ?aS ?aL ?_; (case aP => exact rfl); (case aB => exact bwS); (case aF => exact (fun _ _ => trivial)); (case aO => exact (ra HO_6.out)); (case aS => exact (below_size bwS)); (case aL => have := LMc10.out; omega); intro v448 w12 ho hb hg hat; rw [← Ny447.out] at ho; have n0_ := Aside0.mk (Kd.R_over' (ra HO_4.out) (Kd.R_typed (ra HO_6.out)) (by decide) hg); have n1_ := Aside0.mk (blk_grown (g := gb440) (o := .cells #[.string (⟨#[]⟩ : ByteArray), .slice none 0 0] 47 (0, 0)) bk hg (Kd.R_ne HO_6.out BK440.out (by decide))); have n2_ := Aside0.mk (hb); have n3_ := Aside0.mk (ho); clear HO_4; clear BK440; clear HB; clear HO_6; have HO_4 := n0_; have BK440 := n1_; have HB := n2_; have HO449 := n3_; clear n0_ n1_ n2_ n3_; clear ho hb hg hat))
         go_roundg k1
         case measure => have := HK1.out; omega
         case rel => exact ⟨(y447), ((⟨#[]⟩ : ByteArray)), (wrap64 (x8_1 + 1)), cl, cl, H', ⟨by have := HK1.out; omega⟩, ⟨by (with_reducible repeat (first | apply Kd.R_alloc | apply Kd.R_drewN | apply Kd.R_drew)); exact HO_4.out⟩, ⟨by (with_reducible repeat (first | apply Kd.R_alloc | apply Kd.R_drewN | apply Kd.R_drew)); exact HO449.out⟩, ⟨bk⟩, ⟨bwS⟩⟩
        ·rw [if_neg c10] at H; exact absurd H (by simp)
       ·rw [if_neg c9] at H; have c9b0 : (((rd_T109 t441 x8_1).f1).toList == ([59] : List UInt8)) = false := beq_eq_false_iff_ne.mpr c9; have c9b1 : (((rd_T109 t441 x8_1).f1).toList != ([59] : List UInt8)) = true := bne_iff_ne.mpr c9
        by_cases c13 : x7_1.size + ((rd_T109 t441 x8_1).f1).size ≤ 9223372036854775807
        ·rw [if_pos c13] at H; have c13b0 := eq_true c13; have c13b1 : decide (x7_1.size + ((rd_T109 t441 x8_1).f1).size ≤ 9223372036854775807) = true := decide_eq_true c13
         try have c13b2 : (9223372036854775807 < x7_1.size + ((rd_T109 t441 x8_1).f1).size) = False := eq_false (Nat.not_lt.2 c13)
         have H' := Aside0.mk H; clear H; obtain ⟨Ao14, co14, eo14⟩ := Kd.R_slice HO_4.out; subst eo14; have p445 : 0 ≤ (x8_1 : Int) := od; have q445 : x8_1 < (t441.length : Int) := od; obtain ⟨ad445, e445, hx445_0, hx445_1⟩ := at_T109 (Kd.R_reads' HO_4.out).2.2 x8_1 p445 q445; cases e445; replace p445 := eq_true p445; replace q445 := eq_true q445; have p446 : 0 ≤ (x8_1 : Int) := od; have q446 : x8_1 < (t441.length : Int) := od; obtain ⟨ad446, e446, hx446_0, hx446_1⟩ := at_T109 (Kd.R_reads' HO_4.out).2.2 x8_1 p446 q446; obtain rfl : ad445 = ad446 := (by injection e446)
         replace p446 := eq_true p446; replace q446 := eq_true q446; have p450 : 0 ≤ (x8_1 : Int) := od; have q450 : x8_1 < (t441.length : Int) := od; obtain ⟨ad450, e450, hx450_0, hx450_1⟩ := at_T109 (Kd.R_reads' HO_4.out).2.2 x8_1 p450 q450; obtain rfl : ad445 = ad450 := (by injection e450)
         replace p450 := eq_true p450; replace q450 := eq_true q450
         go_wp2
         go_roundg k1
         case measure => have := HK1.out; omega
         case rel => exact ⟨(x6_1), (x7_1 ++ ((rd_T109 t441 x8_1).f1)), (wrap64 (x8_1 + 1)), cl, cl, H', ⟨by have := HK1.out; omega⟩, ⟨by (with_reducible repeat (first | apply Kd.R_alloc | apply Kd.R_drewN | apply Kd.R_drew)); exact HO_4.out⟩, ⟨by (with_reducible repeat (first | apply Kd.R_alloc | apply Kd.R_drewN | apply Kd.R_drew)); exact HO_6.out⟩, ⟨bk⟩, ⟨bwS⟩⟩
        ·rw [if_neg c13] at H; exact absurd H (by simp)
      ·rw [if_neg c8] at H; have c8b0 : (((rd_T109 t441 x8_1).f0) == 3) = false := beq_eq_false_iff_ne.mpr c8; have c8b1 : (((rd_T109 t441 x8_1).f0) != 3) = true := bne_iff_ne.mpr c8
       by_cases c15 : x7_1.size + ((rd_T109 t441 x8_1).f1).size ≤ 9223372036854775807
       ·rw [if_pos c15] at H; have c15b0 := eq_true c15; have c15b1 : decide (x7_1.size + ((rd_T109 t441 x8_1).f1).size ≤ 9223372036854775807) = true := decide_eq_true c15
        try have c15b2 : (9223372036854775807 < x7_1.size + ((rd_T109 t441 x8_1).f1).size) = False := eq_false (Nat.not_lt.2 c15)
        have H' := Aside0.mk H; clear H; obtain ⟨Ao16, co16, eo16⟩ := Kd.R_slice HO_4.out; subst eo16; have p445 : 0 ≤ (x8_1 : Int) := od; have q445 : x8_1 < (t441.length : Int) := od; obtain ⟨ad445, e445, hx445_0, hx445_1⟩ := at_T109 (Kd.R_reads' HO_4.out).2.2 x8_1 p445 q445; cases e445; replace p445 := eq_true p445; replace q445 := eq_true q445; have p451 : 0 ≤ (x8_1 : Int) := od; have q451 : x8_1 < (t441.length : Int) := od; obtain ⟨ad451, e451, hx451_0, hx451_1⟩ := at_T109 (Kd.R_reads' HO_4.out).2.2 x8_1 p451 q451; obtain rfl : ad445 = ad451 := (by injection e451)
        replace p451 := eq_true p451; replace q451 := eq_true q451
        go_wp2
        go_roundg k1
        case measure => have := HK1.out; omega
        case rel => exact ⟨(x6_1), (x7_1 ++ ((rd_T109 t441 x8_1).f1)), (wrap64 (x8_1 + 1)), cl, cl, H', ⟨by have := HK1.out; omega⟩, ⟨by (with_reducible repeat (first | apply Kd.R_alloc | apply Kd.R_drewN | apply Kd.R_drew)); exact HO_4.out⟩, ⟨by (with_reducible repeat (first | apply Kd.R_alloc | apply Kd.R_drewN | apply Kd.R_drew)); exact HO_6.out⟩, ⟨bk⟩, ⟨bwS⟩⟩
       ·rw [if_neg c15] at H; exact absurd H (by simp)
     ·rw [if_neg c7] at H; exact absurd H (by simp)
    ·rw [if_neg c6] at H; have c6b0 : decide (x8_1 < (t441.length : Int)) = false := decide_eq_false c6; clear c6
     by_cases c17 : x6_1.length < 8796093022208
     ·rw [if_pos c17] at H; have LMc17 := Aside0.mk c17; clear c17; obtain ⟨y452, hy452⟩ : ∃ y_ : List ByteArray, y_ = (x6_1 ++ [x7_1]) := ⟨_, rfl⟩
      replace H : (if 0 < (y452.length : Int) then ((bulletinref12_IsAtom.f k1 (rdOf ByteArray.empty y452 0)).bind fun t456 => (if t456 = true then ((bulletinref20_has.f k1 (rdOf ByteArray.empty y452 0) 47).bind fun t457 => (if t457 = 1 then (if 0 < ((rdOf ByteArray.empty y452 0).size : Int) then (if (bt (rdOf ByteArray.empty y452 0) 0) = 47 then (bulletinref20_ReadType.j1 k1 y452 (rdOf ByteArray.empty y452 0) true) else (if 0 ≤ (wrap64 (((rdOf ByteArray.empty y452 0).size : Int) - 1)) then (if (wrap64 (((rdOf ByteArray.empty y452 0).size : Int) - 1)) < ((rdOf ByteArray.empty y452 0).size : Int) then (bulletinref20_ReadType.j1 k1 y452 (rdOf ByteArray.empty y452 0) ((bt (rdOf ByteArray.empty y452 0) (wrap64 (((rdOf ByteArray.empty y452 0).size : Int) - 1))) == 47)) else (none)) else (none))) else (none)) else (bulletinref20_ReadType.j1 k1 y452 (rdOf ByteArray.empty y452 0) true))) else (bulletinref20_ReadType.j1 k1 y452 (rdOf ByteArray.empty y452 0) true))) else (none)) = some (r1, r2, r3) := by first | (rw [hy452]; with_reducible exact H) | (have H2_ := (Option.bind_some _ _).symm.trans H; rw [hy452]; with_reducible exact H2_) | (have H2_ := (Option.bind_some _ _).symm.trans H; with_reducible exact H2_) | with_reducible exact H | (rw [hy452]; exact H) | exact H
      have Ny452 := Aside0.mk hy452; clear hy452
      by_cases c18 : 0 < (y452.length : Int)
      ·rw [if_pos c18] at H; have c18b0 : decide (0 < (y452.length : Int)) = true := decide_eq_true c18; have c18b1 : decide (0 < y452.length) = true := decide_eq_true (by omega); clear c18; have HC19 := Aside0.mk H; clear H; obtain ⟨Ao20, co20, eo20⟩ := Kd.R_slice HO_4.out; subst eo20
       go_upto_region 15 with (first | ((with_reducible refine gate_builtin (b := .append) (xs := #[.tmp 53, .tmp 55]) rfl ?_); (try (refine gate_guard (by rfl) ?_; dsimp only)); at_builtin; refine Kd.R_append Kd.string (w0 := w) w.heap.size rfl (.tmp 53) (.tmp 55) 32 9 (.string ⟨#[]⟩) 16 rfl Tryd.underlying32 info9 rfl (by decide) (by omega) u6 x6_1 x7_1 [.string x7_1] (fun _ => True) (fun _ => False) rfl rfl ?aP (fun _ hk => hk.elim) ?aF ?aO ?aB ?aS ?aL ?_; (case aP => exact rfl); (case aB => exact bwS); (case aF => exact (fun _ _ => trivial)); (case aO => exact (ra HO_6.out)); (case aS => exact (below_size bwS)); (case aL => have := LMc17.out; omega); intro v453 w21 ho hb hg hat; rw [← Ny452.out] at ho; have n0_ := Aside0.mk (Kd.R_over' (ra HO_4.out) (Kd.R_typed (ra HO_6.out)) (by decide) hg); have n1_ := Aside0.mk (blk_grown (g := gb440) (o := .cells #[.string (⟨#[]⟩ : ByteArray), .slice none 0 0] 47 (0, 0)) bk hg (Kd.R_ne HO_6.out BK440.out (by decide))); have n2_ := Aside0.mk (hb); have n3_ := Aside0.mk (ho); clear HO_4; clear BK440; clear HB; clear HO_6; have HO_4 := n0_; have BK440 := n1_; have HB := n2_; have HO454 := n3_; clear n0_ n1_ n2_ n3_; clear ho hb hg hat; obtain ⟨Ao22, co22, eo22⟩ := Kd.R_slice HO454.out; subst eo22; have p455 : 0 ≤ (0 : Int) := (by omega); have q455 : 0 < (y452.length : Int) := od; obtain ⟨ad455, e455, hx455_0⟩ := Kd.at_string (Kd.R_reads' HO454.out).2.2 0 p455 q455; cases e455; have qi455 : (0 < y452.length) = True := eq_true (by omega); (try rw [show ((0 : Int)).toNat = 0 from rfl] at hx455_0); (try rw [Addr.add_zero'] at hx455_0); replace p455 := eq_true p455; replace q455 := eq_true q455))
       (try simp only [Act.put, List.setIfInBounds_toArray, List.set_cons_zero, List.set_cons_succ])
       go_cut [80] (fun v80 wc => ∃ (kq : Nat) (x80_18 : Bool), v80 = .bool x80_18 ∧ Aside0 (bulletinref20_ReadType.j1 kq y452 (rdOf ByteArray.empty y452 0) x80_18 = some (r1, r2, r3)) ∧ Aside0 (kq ≤ k1) ∧ Aside0 (Kd.R Kd.string 9 wc w.heap.size (fun _ => True) (.slice (some ad455) y452.length co22) y452) ∧ Aside0 (wc.heap[gb440]? = some (.cells #[.string (⟨#[]⟩ : ByteArray), (.slice none 0 0)] 47 (0, 0))) ∧ Aside0 (Below w.heap.size w wc))
       case first =>
        have H := HC19.out; clear HC19; replace H := Option.bind_eq_some_iff.mp H; obtain ⟨t456, A230, H⟩ := H; replace H : (if t456 = true then ((bulletinref20_has.f k1 (rdOf ByteArray.empty y452 0) 47).bind fun t457 => (if t457 = 1 then (if 0 < ((rdOf ByteArray.empty y452 0).size : Int) then (if (bt (rdOf ByteArray.empty y452 0) 0) = 47 then (bulletinref20_ReadType.j1 k1 y452 (rdOf ByteArray.empty y452 0) true) else (if 0 ≤ (wrap64 (((rdOf ByteArray.empty y452 0).size : Int) - 1)) then (if (wrap64 (((rdOf ByteArray.empty y452 0).size : Int) - 1)) < ((rdOf ByteArray.empty y452 0).size : Int) then (bulletinref20_ReadType.j1 k1 y452 (rdOf ByteArray.empty y452 0) ((bt (rdOf ByteArray.empty y452 0) (wrap64 (((rdOf ByteArray.empty y452 0).size : Int) - 1))) == 47)) else (none)) else (none))) else (none)) else (bulletinref20_ReadType.j1 k1 y452 (rdOf ByteArray.empty y452 0) true))) else (bulletinref20_ReadType.j1 k1 y452 (rdOf ByteArray.empty y452 0) true)) = some (r1, r2, r3) := H; have A23 := Aside0.mk A230; clear A230
        by_cases c24 : t456 = true
        ·subst c24; have H1 : ((bulletinref20_has.f k1 (rdOf ByteArray.empty y452 0) 47).bind fun t457 => (if t457 = 1 then (if 0 < ((rdOf ByteArray.empty y452 0).size : Int) then (if (bt (rdOf ByteArray.empty y452 0) 0) = 47 then (bulletinref20_ReadType.j1 k1 y452 (rdOf ByteArray.empty y452 0) true) else (if 0 ≤ (wrap64 (((rdOf ByteArray.empty y452 0).size : Int) - 1)) then (if (wrap64 (((rdOf ByteArray.empty y452 0).size : Int) - 1)) < ((rdOf ByteArray.empty y452 0).size : Int) then (bulletinref20_ReadType.j1 k1 y452 (rdOf ByteArray.empty y452 0) ((bt (rdOf ByteArray.empty y452 0) (wrap64 (((rdOf ByteArray.empty y452 0).size : Int) - 1))) == 47)) else (none)) else (none))) else (none)) else (bulletinref20_ReadType.j1 k1 y452 (rdOf ByteArray.empty y452 0) true))) = some (r1, r2, r3) := by rw [if_pos rfl] at H; exact H
         clear H; have H := H1; clear H1; replace H := Option.bind_eq_some_iff.mp H; obtain ⟨t457, A250, H⟩ := H; replace H : (if t457 = 1 then (if 0 < ((rdOf ByteArray.empty y452 0).size : Int) then (if (bt (rdOf ByteArray.empty y452 0) 0) = 47 then (bulletinref20_ReadType.j1 k1 y452 (rdOf ByteArray.empty y452 0) true) else (if 0 ≤ (wrap64 (((rdOf ByteArray.empty y452 0).size : Int) - 1)) then (if (wrap64 (((rdOf ByteArray.empty y452 0).size : Int) - 1)) < ((rdOf ByteArray.empty y452 0).size : Int) then (bulletinref20_ReadType.j1 k1 y452 (rdOf ByteArray.empty y452 0) ((bt (rdOf ByteArray.empty y452 0) (wrap64 (((rdOf ByteArray.empty y452 0).size : Int) - 1))) == 47)) else (none)) else (none))) else (none)) else (bulletinref20_ReadType.j1 k1 y452 (rdOf ByteArray.empty y452 0) true)) = some (r1, r2, r3) := H; have A25 := Aside0.mk A250; clear A250
         by_cases c26 : t457 = 1
         ·rw [if_pos c26] at H; have c26b0 : (t457 == 1) = true := beq_iff_eq.mpr c26; have c26b1 : (t457 != 1) = false := bne_eq_false_iff_eq.mpr c26; clear c26
          (first | rw [c26b0] | (simp only [i64_w, i32_w]; rw [c26b0]) | skip)
          by_cases c27 : 0 < ((rdOf ByteArray.empty y452 0).size : Int)
          ·rw [if_pos c27] at H; have c27b0 : decide (0 < ((rdOf ByteArray.empty y452 0).size : Int)) = true := decide_eq_true c27; have c27b1 : decide (0 < (rdOf ByteArray.empty y452 0).size) = true := decide_eq_true (by omega); clear c27
           by_cases c29 : (bt (rdOf ByteArray.empty y452 0) 0) = 47
           ·rw [if_pos c29] at H; have c29b0 : ((bt (rdOf ByteArray.empty y452 0) 0) == 47) = true := beq_iff_eq.mpr c29; have c29b1 : ((bt (rdOf ByteArray.empty y452 0) 0) != 47) = false := bne_eq_false_iff_eq.mpr c29; clear c29; have H' := Aside0.mk H; clear H
            go_wp2_with (first | ((with_reducible refine gate_callee (f := 68) rfl ?_); refine goesL_ (some 61) rfl rfl Tryd.func68 (by kernel_rfl) rfl #[.string (rdOf ByteArray.empty y452 0)] rfl am ?_; (with_reducible refine (bulletinref12_IsAtom.calls k1 (rdOf ByteArray.empty y452 0) true _ A23.out).mono ?_); rintro e w' ⟨rfl, ⟨nd, rfl⟩⟩; refine ⟨_, rfl, ?_⟩) | (go_at_call 69; (with_reducible refine (bulletinref20_has.calls k1 (rdOf ByteArray.empty y452 0) 47 t457 _ A25.out).mono ?_); rintro e w30 ⟨rfl, hb⟩; have n0_ := Aside0.mk (Kd.R_below (ra HO_4.out) hb); have n1_ := Aside0.mk (Kd.R_below (ra HO454.out) hb); have n2_ := Aside0.mk (blk_below (g := gb440) (o := .cells #[.string (⟨#[]⟩ : ByteArray), .slice none 0 0] 47 (0, 0)) bk hb); have n3_ := Aside0.mk (below_step bwS hb); clear HO_4; clear HO454; clear BK440; clear HB; have HO_4 := n0_; have HO454 := n1_; have BK440 := n2_; have HB := n3_; clear n0_ n1_ n2_ n3_; (try clear hb); (try clear hb2); (try clear hk); (try clear hi); have p28 : 0 ≤ (0 : Int) := (by omega); have q28 : 0 < (rdOf ByteArray.empty y452 0).size := (by have : (0 : Int) < ((rdOf ByteArray.empty y452 0).size : Int) := od; omega); have hx28 : ∀ h : 0 < (rdOf ByteArray.empty y452 0).size, (((rdOf ByteArray.empty y452 0)[0]'h).toNat : Int) = bt (rdOf ByteArray.empty y452 0) 0 := bt_at (rdOf ByteArray.empty y452 0) 0; clear p28; have qi28 : (0 < ((rdOf ByteArray.empty y452 0).size : Int)) = True := eq_true (od); replace q28 := eq_true q28))
            go_meet
            case rel => exact ⟨_, (true), cl, H', ⟨by have := HK1.out; first | omega | exact Nat.le_refl _⟩, ⟨by (with_reducible repeat (first | apply Kd.R_alloc | apply Kd.R_drewN | apply Kd.R_drew)); exact HO454.out⟩, ⟨bk⟩, ⟨bwS⟩⟩
           ·rw [if_neg c29] at H; have c29b0 : ((bt (rdOf ByteArray.empty y452 0) 0) == 47) = false := beq_eq_false_iff_ne.mpr c29; have c29b1 : ((bt (rdOf ByteArray.empty y452 0) 0) != 47) = true := bne_iff_ne.mpr c29; obtain ⟨ji31, hji31⟩ : ∃ j_ : Int, (wrap64 (((rdOf ByteArray.empty y452 0).size : Int) - 1)) = j_ := ⟨_, rfl⟩
            replace H : (if 0 ≤ (ji31) then (if (ji31) < ((rdOf ByteArray.empty y452 0).size : Int) then (bulletinref20_ReadType.j1 k1 y452 (rdOf ByteArray.empty y452 0) ((bt (rdOf ByteArray.empty y452 0) (ji31)) == 47)) else (none)) else (none)) = some (r1, r2, r3) := by first | (rw [hji31] at H; exact H) | (simp only [hji31] at H ⊢; exact H)
            (try rw [hji31] at A23)
            (try rw [hji31] at A25)
            have hji31w : (IntKind.i64.wrap (((rdOf ByteArray.empty y452 0).size : Int) - 1)) = ji31 := (i64_w _).trans hji31
            by_cases c32 : 0 ≤ (ji31)
            ·rw [if_pos c32] at H; have c32b0 : decide (0 ≤ (ji31)) = true := decide_eq_true c32; clear c32
             by_cases c33 : (ji31) < ((rdOf ByteArray.empty y452 0).size : Int)
             ·rw [if_pos c33] at H; have c33b0 : decide ((ji31) < ((rdOf ByteArray.empty y452 0).size : Int)) = true := decide_eq_true c33; clear c33; have H' := Aside0.mk H; clear H
              go_wp2_with (first | ((with_reducible refine gate_callee (f := 68) rfl ?_); refine goesL_ (some 61) rfl rfl Tryd.func68 (by kernel_rfl) rfl #[.string (rdOf ByteArray.empty y452 0)] rfl am ?_; (with_reducible refine (bulletinref12_IsAtom.calls k1 (rdOf ByteArray.empty y452 0) true _ A23.out).mono ?_); rintro e w' ⟨rfl, ⟨nd, rfl⟩⟩; refine ⟨_, rfl, ?_⟩) | (go_at_call 69; (with_reducible refine (bulletinref20_has.calls k1 (rdOf ByteArray.empty y452 0) 47 t457 _ A25.out).mono ?_); rintro e w35 ⟨rfl, hb⟩; have n0_ := Aside0.mk (Kd.R_below (ra HO_4.out) hb); have n1_ := Aside0.mk (Kd.R_below (ra HO454.out) hb); have n2_ := Aside0.mk (blk_below (g := gb440) (o := .cells #[.string (⟨#[]⟩ : ByteArray), .slice none 0 0] 47 (0, 0)) bk hb); have n3_ := Aside0.mk (below_step bwS hb); clear HO_4; clear HO454; clear BK440; clear HB; have HO_4 := n0_; have HO454 := n1_; have BK440 := n2_; have HB := n3_; clear n0_ n1_ n2_ n3_; (try clear hb); (try clear hb2); (try clear hk); (try clear hi); have p28 : 0 ≤ (0 : Int) := (by omega); have q28 : 0 < (rdOf ByteArray.empty y452 0).size := (by have : (0 : Int) < ((rdOf ByteArray.empty y452 0).size : Int) := od; omega); have hx28 : ∀ h : 0 < (rdOf ByteArray.empty y452 0).size, (((rdOf ByteArray.empty y452 0)[0]'h).toNat : Int) = bt (rdOf ByteArray.empty y452 0) 0 := bt_at (rdOf ByteArray.empty y452 0) 0; clear p28; have qi28 : (0 < ((rdOf ByteArray.empty y452 0).size : Int)) = True := eq_true (od); replace q28 := eq_true q28; have p34 : 0 ≤ ((ji31) : Int) := od; have q34 : (ji31) < ((rdOf ByteArray.empty y452 0).size : Int) := od; have hx34 := bt_at (rdOf ByteArray.empty y452 0) (ji31); replace p34 := eq_true p34; replace q34 := eq_true q34))
              go_meet
              case rel => exact ⟨_, (((bt (rdOf ByteArray.empty y452 0) (ji31)) == 47)), (by first | rfl | (simp; done) | (simp only [← hji31] <;> (first | rfl | simp)) | (simp [*]; done) | (simp [nil_ne]; done)), H', ⟨by have := HK1.out; first | omega | exact Nat.le_refl _⟩, ⟨by (with_reducible repeat (first | apply Kd.R_alloc | apply Kd.R_drewN | apply Kd.R_drew)); exact HO454.out⟩, ⟨bk⟩, ⟨bwS⟩⟩
             ·rw [if_neg c33] at H; exact absurd H (by simp)
            ·rw [if_neg c32] at H; exact absurd H (by simp)
          ·rw [if_neg c27] at H; exact absurd H (by simp)
         ·rw [if_neg c26] at H; have c26b0 : (t457 == 1) = false := beq_eq_false_iff_ne.mpr c26; have c26b1 : (t457 != 1) = true := bne_iff_ne.mpr c26
          (first | rw [c26b0] | (simp only [i64_w, i32_w]; rw [c26b0]) | skip)
          have H' := Aside0.mk H; clear H
          go_wp2_with (first | ((with_reducible refine gate_callee (f := 68) rfl ?_); refine goesL_ (some 61) rfl rfl Tryd.func68 (by kernel_rfl) rfl #[.string (rdOf ByteArray.empty y452 0)] rfl am ?_; (with_reducible refine (bulletinref12_IsAtom.calls k1 (rdOf ByteArray.empty y452 0) true _ A23.out).mono ?_); rintro e w' ⟨rfl, ⟨nd, rfl⟩⟩; refine ⟨_, rfl, ?_⟩) | (go_at_call 69; (with_reducible refine (bulletinref20_has.calls k1 (rdOf ByteArray.empty y452 0) 47 t457 _ A25.out).mono ?_); rintro e w36 ⟨rfl, hb⟩; have n0_ := Aside0.mk (Kd.R_below (ra HO_4.out) hb); have n1_ := Aside0.mk (Kd.R_below (ra HO454.out) hb); have n2_ := Aside0.mk (blk_below (g := gb440) (o := .cells #[.string (⟨#[]⟩ : ByteArray), .slice none 0 0] 47 (0, 0)) bk hb); have n3_ := Aside0.mk (below_step bwS hb); clear HO_4; clear HO454; clear BK440; clear HB; have HO_4 := n0_; have HO454 := n1_; have BK440 := n2_; have HB := n3_; clear n0_ n1_ n2_ n3_; (try clear hb); (try clear hb2); (try clear hk); (try clear hi)))
          go_meet
          case rel => exact ⟨_, (true), cl, H', ⟨by have := HK1.out; first | omega | exact Nat.le_refl _⟩, ⟨by (with_reducible repeat (first | apply Kd.R_alloc | apply Kd.R_drewN | apply Kd.R_drew)); exact HO454.out⟩, ⟨bk⟩, ⟨bwS⟩⟩
        ·replace c24 := Bool.eq_false_iff.mpr c24; subst c24; have H1 : (bulletinref20_ReadType.j1 k1 y452 (rdOf ByteArray.empty y452 0) true) = some (r1, r2, r3) := by rw [if_neg (show ¬ (false = true) by decide)] at H; exact H
         clear H; have H := H1; clear H1; have H' := Aside0.mk H; clear H
         go_wp2_with (first | ((with_reducible refine gate_callee (f := 68) rfl ?_); refine goesL_ (some 61) rfl rfl Tryd.func68 (by kernel_rfl) rfl #[.string (rdOf ByteArray.empty y452 0)] rfl am ?_; (with_reducible refine (bulletinref12_IsAtom.calls k1 (rdOf ByteArray.empty y452 0) false _ A23.out).mono ?_); rintro e w' ⟨rfl, ⟨nd, rfl⟩⟩; refine ⟨_, rfl, ?_⟩))
         go_meet
         case rel => exact ⟨_, (true), cl, H', ⟨by have := HK1.out; first | omega | exact Nat.le_refl _⟩, ⟨by (with_reducible repeat (first | apply Kd.R_alloc | apply Kd.R_drewN | apply Kd.R_drew)); exact HO454.out⟩, ⟨bk⟩, ⟨bwS⟩⟩
       case rest =>
        clear HC19
        try clear c1
        try clear c2
        try clear p2
        try clear q2
        try clear hx2
        try clear qi2
        try clear c3
        try clear c3b0
        try clear c3b1
        try clear p3
        try clear q3
        try clear hx3
        try clear p4
        try clear q4
        try clear hx4
        try clear qi4
        try clear c6
        try clear c6b0
        try clear p6
        try clear c7
        try clear c7b0
        try clear c8
        try clear c8b0
        try clear c8b1
        try clear c9
        try clear c9b0
        try clear c9b1
        try clear c10
        try clear c13
        try clear c13b0
        try clear c13b1
        try clear c13b2
        try clear c15
        try clear c15b0
        try clear c15b1
        try clear c15b2
        try clear c17
        try clear c18
        try clear c18b0
        try clear c18b1
        try clear c24
        try clear c26
        try clear c26b0
        try clear c26b1
        try clear c27
        try clear c27b0
        try clear c27b1
        try clear c28
        try clear p28
        try clear q28
        try clear hx28
        try clear qi28
        try clear c29
        try clear c29b0
        try clear c29b1
        try clear c32
        try clear c32b0
        try clear c33
        try clear c33b0
        try clear p34
        try clear q34
        try clear hx34
        try clear hx445_0
        try clear hx445_1
        try clear hx446_0
        try clear hx446_1
        try clear hx450_0
        try clear hx450_1
        try clear hx451_0
        try clear hx451_1
        try clear hx455_0
        try clear p2
        try clear p28
        try clear p34
        try clear p445
        try clear p446
        try clear p450
        try clear p451
        try clear p455
        try clear q28
        try clear q34
        try clear q445
        try clear q446
        try clear q450
        try clear q451
        try clear q455
        obtain ⟨kq, x80_18, rfl, HA, HJ18, HO_6, BK440, HB⟩ := hcut; cases kq with
        | zero => exact absurd HA.out (by simp [bulletinref20_ReadType.j1])
        | succ kj18 =>
         have H := HA.out; clear HA; simp only [bulletinref20_ReadType.j1] at H
         by_cases c37 : x80_18 = true
         ·subst c37; have H1 : (some ((⟨#[]⟩ : ByteArray), ([] : List (S97)), false)) = some (r1, r2, r3) := by rw [if_pos rfl] at H; exact H
          clear H; have H := H1; clear H1; simp only [Option.some.injEq, Prod.mk.injEq] at H; obtain ⟨rfl, rfl, rfl⟩ := H; have hcz38_0 : wc.cell? ⟨gb440, 0, none⟩ = some (.string (⟨#[]⟩ : ByteArray)) := (blk_cell BK440.out 0).trans rfl; have hcz38_1 : wc.cell? ⟨gb440, 1, none⟩ = some (.slice none 0 0) := (blk_cell BK440.out 1).trans rfl; have hfz38_0 := blk_frozen BK440.out 0; have hfz38_1 := blk_frozen BK440.out 1
          go_wp2
          refine bodyPost_ret (results_ct rfl _ _ gb440 47 #[.string (⟨#[]⟩ : ByteArray), .slice none 0 0] (0, 0) _ rfl (by (with_reducible repeat (first | refine blk_drewN ?_ _ | refine blk_drew ?_ | refine blk_alloc ?_ _)); refine blk_put (cs := #[.string (⟨#[]⟩ : ByteArray), .slice none 0 0]) ?_ 1 _ rfl; (with_reducible repeat (first | refine blk_drewN ?_ _ | refine blk_drew ?_ | refine blk_alloc ?_ _)); exact blk_put (cs := #[.string (⟨#[]⟩ : ByteArray), .slice none 0 0]) bk 0 _ rfl) Tryd.underlying47 rfl (by kernel_rfl)) rfl ?_; exact ⟨_, ew, by first | exact Kd.R_nil _ _ _ _ _ | exact Kd.N_nil _ _ _ _ _ | exact Kd.V_nil _ _ _ _ _ | exact Kd.Q_nil _ _ _ _ _ | exact Kd.S_nil _ _ _ _ _, bwS⟩
         ·replace c37 := Bool.eq_false_iff.mpr c37; subst c37; have H1 : ((bulletinref06_Fold.f kj18 (rdOf ByteArray.empty y452 0)).bind fun t458 => (bulletinref20_ReadType.l1 kj18 y452 1 t458 ([] : List (S97)))) = some (r1, r2, r3) := by rw [if_neg (show ¬ (false = true) by decide)] at H; exact H
          clear H; have H := H1; clear H1; replace H := Option.bind_eq_some_iff.mp H; obtain ⟨t458, A390, H⟩ := H; replace H : (bulletinref20_ReadType.l1 kj18 y452 1 t458 ([] : List (S97))) = some (r1, r2, r3) := H; have A39 := Aside0.mk A390; clear A390; have H' := Aside0.mk H; clear H
          go_wp2_with (first | ((with_reducible refine gate_callee (f := 60) rfl ?_); refine goesL_ (some 83) rfl rfl Tryd.func60 (by kernel_rfl) rfl #[.string (rdOf ByteArray.empty y452 0)] rfl am ?_; (with_reducible refine (bulletinref06_Fold.calls kj18 (rdOf ByteArray.empty y452 0) t458 _ A39.out).mono ?_); rintro e w40 ⟨rfl, hb⟩; refine ⟨_, rfl, ?_⟩; have n0_ := Aside0.mk (Kd.R_below (ra HO_6.out) hb); have n1_ := Aside0.mk (blk_below (g := gb440) (o := .cells #[.string (⟨#[]⟩ : ByteArray), .slice none 0 0] 47 (0, 0)) bk hb); have n2_ := Aside0.mk (below_step bwS hb); clear HO_6; clear BK440; clear HB; have HO_6 := n0_; have BK440 := n1_; have HB := n2_; clear n0_ n1_ n2_; (try clear hb); (try clear hb2); (try clear hk); (try clear hi)) | ((with_reducible refine gate_dst (N := 10) rfl ?_); (try (refine gate_guard (by rfl) ?_; dsimp only)); refine box_event ?hg (N := 10) ?hd (cs := #[.string (⟨#[]⟩ : ByteArray), .slice none 0 0]) (t := 47) ?hr ?_; (case hd => rfl); (case hg => rfl); (case hr => first | (go_simp; done) | (go_simp; rfl)); intro gb459 hg w41 hbox hb; have n0_ := Aside0.mk (Kd.R_below (ra HO_6.out) hb); have n1_ := Aside0.mk (blk_below (g := gb440) (o := .cells #[.string (⟨#[]⟩ : ByteArray), .slice none 0 0] 47 (0, 0)) bk hb); have n2_ := Aside0.mk (below_step bwS hb); have n3_ := Aside0.mk (hbox); have n4_ := Aside0.mk ((by rw [hg]; exact (below_size bwS) : w.heap.size ≤ gb459)); have n5_ := Aside0.mk ((by rw [hg]; exact (below_size bwS) : w.heap.size ≤ gb459)); have n6_ := Aside0.mk ((by rw [hg]; exact Nat.ne_of_lt (blk_lt (g := gb440) (o := .cells #[.string (⟨#[]⟩ : ByteArray), .slice none 0 0] 47 (0, 0)) bk) : gb440 ≠ gb459)); have n7_ := Aside0.mk ((by rw [hg]; exact Nat.ne_of_gt (blk_lt (g := gb440) (o := .cells #[.string (⟨#[]⟩ : ByteArray), .slice none 0 0] 47 (0, 0)) bk) : gb459 ≠ gb440)); clear HO_6; clear BK440; clear HB; have HO_6 := n0_; have BK440 := n1_; have HB := n2_; have BK459 := n3_; have GW459 := n4_; have GE459 := n5_; have NB440_459 := n6_; have NB459_440 := n7_; clear n0_ n1_ n2_ n3_ n4_ n5_ n6_ n7_; clear hb hbox hg; have hnb42 := NB459_440.out; have hnc42 := NB440_459.out; have hcz43_0 : w41.cell? ⟨gb459, 0, none⟩ = some (.string (⟨#[]⟩ : ByteArray)) := (blk_cell BK459.out 0).trans rfl; have hcz43_1 : w41.cell? ⟨gb459, 1, none⟩ = some (.slice none 0 0) := (blk_cell BK459.out 1).trans rfl; have hfz43_0 := blk_frozen BK459.out 0; have hfz43_1 := blk_frozen BK459.out 1))
          go_loopg [11] kj18 (fun kq v11 w' => ∃ (x11_3 : Int) (x441000_3 : ByteArray) (x460001_3 : List (S97)) (u460001 : Value), v11 = .int .i64 x11_3 ∧ Aside0 (bulletinref20_ReadType.l1 kq y452 x11_3 t458 x460001_3 = some (r1, r2, r3)) ∧ Aside0 (kq ≤ kj18) ∧ Aside0 (Kd.R Kd.string 9 w' w.heap.size (fun _ => True) (.slice (some ad455) y452.length co22) y452) ∧ Aside0 (Kd.R k97 97 w' w.heap.size (fun _ => True) u460001 x460001_3) ∧ Aside0 (w'.heap[gb440]? = some (.cells #[.string x441000_3, (.slice none 0 0)] 47 (0, 0))) ∧ Aside0 (w'.heap[gb459]? = some (.cells #[.string t458, u460001] 47 (0, 0))) ∧ Aside0 (Below w.heap.size w w'))
          case atStart => exact ⟨(1), ((⟨#[]⟩ : ByteArray)), (([] : List (S97))), (.slice none 0 0), cl, H', ⟨Nat.le_refl _⟩, ⟨by (with_reducible repeat (first | apply Kd.R_alloc | apply Kd.R_drewN | apply Kd.R_drew)); exact Kd.R_mono (Kd.R_far (p := ⟨gb459, 1, none⟩) (Kd.R_far (p := ⟨gb459, 0, none⟩) (Kd.R_types HO_6.out BK459.out (by decide)) (fun _ hk => hk.2) (.string t458)) (fun _ hk => hk.2) (.slice none 0 0)) (fun _ hk => trivial)⟩, ⟨by first | exact Kd.R_nil _ _ _ _ _ | exact Kd.N_nil _ _ _ _ _ | exact Kd.V_nil _ _ _ _ _ | exact Kd.Q_nil _ _ _ _ _ | exact Kd.S_nil _ _ _ _ _⟩, ⟨by (with_reducible repeat (first | refine blk_drewN ?_ _ | refine blk_drew ?_ | refine blk_alloc ?_ _)); refine blk_far ?_ NB440_459.out _; (with_reducible repeat (first | refine blk_drewN ?_ _ | refine blk_drew ?_ | refine blk_alloc ?_ _)); refine blk_far ?_ NB440_459.out _; (with_reducible repeat (first | refine blk_drewN ?_ _ | refine blk_drew ?_ | refine blk_alloc ?_ _)); exact BK440.out⟩, ⟨by (with_reducible repeat (first | refine blk_drewN ?_ _ | refine blk_drew ?_ | refine blk_alloc ?_ _)); refine blk_put (cs := #[.string t458, .slice none 0 0]) ?_ 1 _ rfl; (with_reducible repeat (first | refine blk_drewN ?_ _ | refine blk_drew ?_ | refine blk_alloc ?_ _)); exact blk_put (cs := #[.string (⟨#[]⟩ : ByteArray), .slice none 0 0]) bk 0 _ rfl⟩, ⟨bwS⟩⟩
          case round =>
           clear H'
           try clear c1
           try clear c2
           try clear p2
           try clear q2
           try clear hx2
           try clear qi2
           try clear c3
           try clear c3b0
           try clear c3b1
           try clear p3
           try clear q3
           try clear hx3
           try clear c4
           try clear p4
           try clear q4
           try clear hx4
           try clear qi4
           try clear c6
           try clear c6b0
           try clear p6
           try clear c7
           try clear c7b0
           try clear c8
           try clear c8b0
           try clear c8b1
           try clear c9
           try clear c9b0
           try clear c9b1
           try clear c10
           try clear c13
           try clear c13b0
           try clear c13b1
           try clear c13b2
           try clear c15
           try clear c15b0
           try clear c15b1
           try clear c15b2
           try clear c17
           try clear c18
           try clear c18b0
           try clear c18b1
           try clear c24
           try clear c26
           try clear c26b0
           try clear c26b1
           try clear c27
           try clear c27b0
           try clear c27b1
           try clear c28
           try clear p28
           try clear q28
           try clear hx28
           try clear qi28
           try clear c29
           try clear c29b0
           try clear c29b1
           try clear c32
           try clear c32b0
           try clear c33
           try clear c33b0
           try clear p34
           try clear q34
           try clear hx34
           try clear c37
           try clear c42
           try clear hcz38_0
           try clear hcz38_1
           try clear hcz43_0
           try clear hcz43_1
           try clear hfz38_0
           try clear hfz38_1
           try clear hfz43_0
           try clear hfz43_1
           try clear hx445_0
           try clear hx445_1
           try clear hx446_0
           try clear hx446_1
           try clear hx450_0
           try clear hx450_1
           try clear hx451_0
           try clear hx451_1
           try clear hx455_0
           try clear p2
           try clear p28
           try clear p3
           try clear p34
           try clear p4
           try clear p445
           try clear p446
           try clear p450
           try clear p451
           try clear p455
           try clear p6
           try clear q2
           try clear q28
           try clear q3
           try clear q34
           try clear q4
           try clear q445
           try clear q446
           try clear q450
           try clear q451
           try clear q455
           obtain ⟨x11_3, x441000_3, x460001_3, u460001, rfl, HA, HK3, HO_6, HO_460001, BK440, BK459, HB⟩ := hrel; cases gk with
           | zero => exact absurd HA.out (by simp [bulletinref20_ReadType.l1])
           | succ k3 =>
            have H := HA.out; clear HA; simp only [bulletinref20_ReadType.l1] at H
            by_cases c44 : x11_3 < (y452.length : Int)
            ·rw [if_pos c44] at H; have c44b0 : decide (x11_3 < (y452.length : Int)) = true := decide_eq_true c44; clear c44
             by_cases c45 : 0 ≤ x11_3
             ·rw [if_pos c45] at H; have c45b0 : decide (0 ≤ x11_3) = true := decide_eq_true c45; clear c45; replace H := Option.bind_eq_some_iff.mp H; obtain ⟨t461, A460, H⟩ := H; replace H : (if 0 < (t461.length : Int) then (if ((rdOf ByteArray.empty t461 0).size : Int) = ((rdOf ByteArray.empty y452 x11_3).size : Int) then (some ((⟨#[]⟩ : ByteArray), ([] : List (S97)), false)) else (if 0 ≤ ((rdOf ByteArray.empty t461 0).size : Int) then (if ((rdOf ByteArray.empty t461 0).size : Int) ≤ ((rdOf ByteArray.empty y452 x11_3).size : Int) then ((bulletinref12_IsAtom.f k3 ((rdOf ByteArray.empty y452 x11_3).extract 0 (((rdOf ByteArray.empty t461 0).size : Int) : Int).toNat)).bind fun t465 => (if t465 = true then ((bulletinref06_Fold.f k3 ((rdOf ByteArray.empty y452 x11_3).extract 0 (((rdOf ByteArray.empty t461 0).size : Int) : Int).toNat)).bind fun t466 => (if 0 ≤ (wrap64 (((rdOf ByteArray.empty t461 0).size : Int) + 1)) then (if (wrap64 (((rdOf ByteArray.empty t461 0).size : Int) + 1)) ≤ ((rdOf ByteArray.empty y452 x11_3).size : Int) then (if x460001_3.length < 4398046511104 then (bulletinref20_ReadType.l1 k3 y452 (wrap64 (x11_3 + 1)) t458 (x460001_3 ++ [(⟨t466, (rdOf ByteArray.empty y452 x11_3).extract ((wrap64 (((rdOf ByteArray.empty t461 0).size : Int) + 1)) : Int).toNat (rdOf ByteArray.empty y452 x11_3).size⟩ : S97)])) else (none)) else (none)) else (none))) else (some ((⟨#[]⟩ : ByteArray), ([] : List (S97)), false)))) else (none)) else (none))) else (none)) = some (r1, r2, r3) := H; have A46 := Aside0.mk A460; clear A460
              by_cases c47 : 0 < (t461.length : Int)
              ·rw [if_pos c47] at H; have c47b0 : decide (0 < (t461.length : Int)) = true := decide_eq_true c47; have c47b1 : decide (0 < t461.length) = true := decide_eq_true (by omega); clear c47
               by_cases c48 : ((rdOf ByteArray.empty t461 0).size : Int) = ((rdOf ByteArray.empty y452 x11_3).size : Int)
               ·rw [if_pos c48] at H; have c48b0 : (((rdOf ByteArray.empty t461 0).size : Int) == ((rdOf ByteArray.empty y452 x11_3).size : Int)) = true := beq_iff_eq.mpr c48; have c48b1 : (((rdOf ByteArray.empty t461 0).size : Int) != ((rdOf ByteArray.empty y452 x11_3).size : Int)) = false := bne_eq_false_iff_eq.mpr c48; have c48b2 : ((rdOf ByteArray.empty t461 0).size == (rdOf ByteArray.empty y452 x11_3).size) = true := by first | simpa using c48 | (simp at c48 ⊢; omega)
                clear c48; simp only [Option.some.injEq, Prod.mk.injEq] at H; obtain ⟨rfl, rfl, rfl⟩ := H; have p460 : 0 ≤ (x11_3 : Int) := od; have q460 : x11_3 < (y452.length : Int) := od; obtain ⟨ad460, e460, hx460_0⟩ := Kd.at_string (Kd.R_reads' HO_6.out).2.2 x11_3 p460 q460; obtain rfl : ad455 = ad460 := (by injection e460)
                replace p460 := eq_true p460; replace q460 := eq_true q460
                go_wp2_with (first | ((with_reducible refine gate_callee (f := 70) rfl ?_); refine goesL_ (some 96) rfl rfl Tryd.func70 (by kernel_rfl) rfl #[.string (rdOf ByteArray.empty y452 x11_3), .int .u8 61] rfl am ?_; (with_reducible refine (bulletinref13_Split.calls k3 (rdOf ByteArray.empty y452 x11_3) 61 t461 _ A46.out).mono ?_); rintro e w49 ⟨v462, rfl, ho0, hb⟩; refine ⟨_, rfl, ?_⟩; have n0_ := Aside0.mk (Kd.R_elder' (ra HO_6.out) (Kd.R_base ho0) hb); have n1_ := Aside0.mk (Kd.R_below (ra HO_460001.out) hb); have n2_ := Aside0.mk (Kd.R_lower (Kd.R_new' ho0 (Kd.R_lt (ra HO_6.out))) (below_size bwS)); have n3_ := Aside0.mk (blk_below (g := gb440) (o := .cells #[.string x441000_3, .slice none 0 0] 47 (0, 0)) bk hb); have n4_ := Aside0.mk (blk_below (g := gb459) (o := .cells #[.string t458, u460001] 47 (0, 0)) bk hb); have n5_ := Aside0.mk (below_step bwS hb); clear HO_6; clear HO_460001; clear BK440; clear BK459; clear HB; have HO_6 := n0_; have HO_460001 := n1_; have HO463 := n2_; have BK440 := n3_; have BK459 := n4_; have HB := n5_; clear n0_ n1_ n2_ n3_ n4_ n5_; (try clear hb); (try clear hb2); (try clear hk); (try clear hi); (try clear ho0); obtain ⟨Ao50, co50, eo50⟩ := Kd.R_slice HO463.out; subst eo50; have p464 : 0 ≤ (0 : Int) := (by omega); have q464 : 0 < (t461.length : Int) := od; obtain ⟨ad464, e464, hx464_0⟩ := Kd.at_string (Kd.R_reads' HO463.out).2.2 0 p464 q464; cases e464; have qi464 : (0 < t461.length) = True := eq_true (by omega); (try rw [show ((0 : Int)).toNat = 0 from rfl] at hx464_0); (try rw [Addr.add_zero'] at hx464_0); replace p464 := eq_true p464; replace q464 := eq_true q464; have hnb51 := NB440_459.out; have hnc51 := NB459_440.out; have hcz52_0 : w49.cell? ⟨gb440, 0, none⟩ = some (.string x441000_3) := (blk_cell BK440.out 0).trans rfl; have hcz52_1 : w49.cell? ⟨gb440, 1, none⟩ = some (.slice none 0 0) := (blk_cell BK440.out 1).trans rfl; have hfz52_0 := blk_frozen BK440.out 0; have hfz52_1 := blk_frozen BK440.out 1))
                refine bodyPost_ret (results_ct rfl _ _ gb440 47 #[.string (⟨#[]⟩ : ByteArray), .slice none 0 0] (0, 0) _ rfl (by (with_reducible repeat (first | refine blk_drewN ?_ _ | refine blk_drew ?_ | refine blk_alloc ?_ _)); refine blk_put (cs := #[.string (⟨#[]⟩ : ByteArray), .slice none 0 0]) ?_ 1 _ rfl; (with_reducible repeat (first | refine blk_drewN ?_ _ | refine blk_drew ?_ | refine blk_alloc ?_ _)); exact blk_put (cs := #[.string x441000_3, .slice none 0 0]) bk 0 _ rfl) Tryd.underlying47 rfl (by kernel_rfl)) rfl ?_; exact ⟨_, ew, by first | exact Kd.R_nil _ _ _ _ _ | exact Kd.N_nil _ _ _ _ _ | exact Kd.V_nil _ _ _ _ _ | exact Kd.Q_nil _ _ _ _ _ | exact Kd.S_nil _ _ _ _ _, bwS⟩
               ·rw [if_neg c48] at H; have c48b0 : (((rdOf ByteArray.empty t461 0).size : Int) == ((rdOf ByteArray.empty y452 x11_3).size : Int)) = false := beq_eq_false_iff_ne.mpr c48; have c48b1 : (((rdOf ByteArray.empty t461 0).size : Int) != ((rdOf ByteArray.empty y452 x11_3).size : Int)) = true := bne_iff_ne.mpr c48; have c48b2 : ((rdOf ByteArray.empty t461 0).size == (rdOf ByteArray.empty y452 x11_3).size) = false := by first | simpa using c48 | (simp at c48 ⊢; omega)
                by_cases c53 : 0 ≤ ((rdOf ByteArray.empty t461 0).size : Int)
                ·rw [if_pos c53] at H; have c53b0 := eq_true c53; have c53b1 : decide (0 ≤ ((rdOf ByteArray.empty t461 0).size : Int)) = true := decide_eq_true c53; clear c53
                 by_cases c54 : ((rdOf ByteArray.empty t461 0).size : Int) ≤ ((rdOf ByteArray.empty y452 x11_3).size : Int)
                 ·rw [if_pos c54] at H; have c54b0 := eq_true c54; have c54b1 : decide (((rdOf ByteArray.empty t461 0).size : Int) ≤ ((rdOf ByteArray.empty y452 x11_3).size : Int)) = true := decide_eq_true c54; clear c54; replace H := Option.bind_eq_some_iff.mp H; obtain ⟨t465, A550, H⟩ := H; replace H : (if t465 = true then ((bulletinref06_Fold.f k3 ((rdOf ByteArray.empty y452 x11_3).extract 0 (((rdOf ByteArray.empty t461 0).size : Int) : Int).toNat)).bind fun t466 => (if 0 ≤ (wrap64 (((rdOf ByteArray.empty t461 0).size : Int) + 1)) then (if (wrap64 (((rdOf ByteArray.empty t461 0).size : Int) + 1)) ≤ ((rdOf ByteArray.empty y452 x11_3).size : Int) then (if x460001_3.length < 4398046511104 then (bulletinref20_ReadType.l1 k3 y452 (wrap64 (x11_3 + 1)) t458 (x460001_3 ++ [(⟨t466, (rdOf ByteArray.empty y452 x11_3).extract ((wrap64 (((rdOf ByteArray.empty t461 0).size : Int) + 1)) : Int).toNat (rdOf ByteArray.empty y452 x11_3).size⟩ : S97)])) else (none)) else (none)) else (none))) else (some ((⟨#[]⟩ : ByteArray), ([] : List (S97)), false))) = some (r1, r2, r3) := H; have A55 := Aside0.mk A550; clear A550
                  by_cases c56 : t465 = true
                  ·subst c56; have H1 : ((bulletinref06_Fold.f k3 ((rdOf ByteArray.empty y452 x11_3).extract 0 (((rdOf ByteArray.empty t461 0).size : Int) : Int).toNat)).bind fun t466 => (if 0 ≤ (wrap64 (((rdOf ByteArray.empty t461 0).size : Int) + 1)) then (if (wrap64 (((rdOf ByteArray.empty t461 0).size : Int) + 1)) ≤ ((rdOf ByteArray.empty y452 x11_3).size : Int) then (if x460001_3.length < 4398046511104 then (bulletinref20_ReadType.l1 k3 y452 (wrap64 (x11_3 + 1)) t458 (x460001_3 ++ [(⟨t466, (rdOf ByteArray.empty y452 x11_3).extract ((wrap64 (((rdOf ByteArray.empty t461 0).size : Int) + 1)) : Int).toNat (rdOf ByteArray.empty y452 x11_3).size⟩ : S97)])) else (none)) else (none)) else (none))) = some (r1, r2, r3) := by rw [if_pos rfl] at H; exact H
                   clear H; have H := H1; clear H1; have c57b0 := eq_true (od : 0 ≤ ((rdOf ByteArray.empty t461 0).size : Int)); have c58b0 := eq_true (od : ((rdOf ByteArray.empty t461 0).size : Int) ≤ ((rdOf ByteArray.empty y452 x11_3).size : Int)); replace H := Option.bind_eq_some_iff.mp H; obtain ⟨t466, A590, H⟩ := H; replace H : (if 0 ≤ (wrap64 (((rdOf ByteArray.empty t461 0).size : Int) + 1)) then (if (wrap64 (((rdOf ByteArray.empty t461 0).size : Int) + 1)) ≤ ((rdOf ByteArray.empty y452 x11_3).size : Int) then (if x460001_3.length < 4398046511104 then (bulletinref20_ReadType.l1 k3 y452 (wrap64 (x11_3 + 1)) t458 (x460001_3 ++ [(⟨t466, (rdOf ByteArray.empty y452 x11_3).extract ((wrap64 (((rdOf ByteArray.empty t461 0).size : Int) + 1)) : Int).toNat (rdOf ByteArray.empty y452 x11_3).size⟩ : S97)])) else (none)) else (none)) else (none)) = some (r1, r2, r3) := H; have A59 := Aside0.mk A590; clear A590; obtain ⟨ji60, hji60⟩ : ∃ j_ : Int, (wrap64 (((rdOf ByteArray.empty t461 0).size : Int) + 1)) = j_ := ⟨_, rfl⟩
                   replace H : (if 0 ≤ (ji60) then (if (ji60) ≤ ((rdOf ByteArray.empty y452 x11_3).size : Int) then (if x460001_3.length < 4398046511104 then (bulletinref20_ReadType.l1 k3 y452 (wrap64 (x11_3 + 1)) t458 (x460001_3 ++ [(⟨t466, (rdOf ByteArray.empty y452 x11_3).extract ((ji60) : Int).toNat (rdOf ByteArray.empty y452 x11_3).size⟩ : S97)])) else (none)) else (none)) else (none)) = some (r1, r2, r3) := by first | (rw [hji60] at H; exact H) | (simp only [hji60] at H ⊢; exact H)
                   (try rw [hji60] at A46)
                   (try rw [hji60] at A55)
                   (try rw [hji60] at A59)
                   have hji60w : (IntKind.i64.wrap (((rdOf ByteArray.empty t461 0).size : Int) + 1)) = ji60 := (i64_w _).trans hji60
                   by_cases c61 : 0 ≤ (ji60)
                   ·rw [if_pos c61] at H; have c61b0 := eq_true c61; have c61b1 : decide (0 ≤ (ji60)) = true := decide_eq_true c61; clear c61
                    by_cases c62 : (ji60) ≤ ((rdOf ByteArray.empty y452 x11_3).size : Int)
                    ·rw [if_pos c62] at H; have c62b0 := eq_true c62; have c62b1 : decide ((ji60) ≤ ((rdOf ByteArray.empty y452 x11_3).size : Int)) = true := decide_eq_true c62; clear c62
                     by_cases c63 : x460001_3.length < 4398046511104
                     ·rw [if_pos c63] at H; have LMc63 := Aside0.mk c63; clear c63; obtain ⟨y467, hy467⟩ : ∃ y_ : List (S97), y_ = (x460001_3 ++ [(⟨t466, (rdOf ByteArray.empty y452 x11_3).extract ((ji60) : Int).toNat (rdOf ByteArray.empty y452 x11_3).size⟩ : S97)]) := ⟨_, rfl⟩
                      replace H : (bulletinref20_ReadType.l1 k3 y452 (wrap64 (x11_3 + 1)) t458 y467) = some (r1, r2, r3) := by first | (rw [hy467]; with_reducible exact H) | (have H2_ := (Option.bind_some _ _).symm.trans H; rw [hy467]; with_reducible exact H2_) | (have H2_ := (Option.bind_some _ _).symm.trans H; with_reducible exact H2_) | with_reducible exact H | (rw [hy467]; exact H) | exact H
                      have Ny467 := Aside0.mk hy467; clear hy467; have H' := Aside0.mk H; clear H; have p460 : 0 ≤ (x11_3 : Int) := od; have q460 : x11_3 < (y452.length : Int) := od; obtain ⟨ad460, e460, hx460_0⟩ := Kd.at_string (Kd.R_reads' HO_6.out).2.2 x11_3 p460 q460; obtain rfl : ad455 = ad460 := (by injection e460)
                      replace p460 := eq_true p460; replace q460 := eq_true q460
                      try go_wp2_with (first | ((with_reducible refine gate_callee (f := 70) rfl ?_); refine goesL_ (some 96) rfl rfl Tryd.func70 (by kernel_rfl) rfl #[.string (rdOf ByteArray.empty y452 x11_3), .int .u8 61] rfl am ?_; (with_reducible refine (bulletinref13_Split.calls k3 (rdOf ByteArray.empty y452 x11_3) 61 t461 _ A46.out).mono ?_); rintro e w64 ⟨v462, rfl, ho0, hb⟩; refine ⟨_, rfl, ?_⟩; have n0_ := Aside0.mk (Kd.R_elder' (ra HO_6.out) (Kd.R_base ho0) hb); have n1_ := Aside0.mk (Kd.R_below (ra HO_460001.out) hb); have n2_ := Aside0.mk (Kd.R_lower (Kd.R_new' ho0 (Kd.R_lt (ra HO_6.out))) (below_size bwS)); have n3_ := Aside0.mk (blk_below (g := gb440) (o := .cells #[.string x441000_3, .slice none 0 0] 47 (0, 0)) bk hb); have n4_ := Aside0.mk (blk_below (g := gb459) (o := .cells #[.string t458, u460001] 47 (0, 0)) bk hb); have n5_ := Aside0.mk (below_step bwS hb); clear HO_6; clear HO_460001; clear BK440; clear BK459; clear HB; have HO_6 := n0_; have HO_460001 := n1_; have HO463 := n2_; have BK440 := n3_; have BK459 := n4_; have HB := n5_; clear n0_ n1_ n2_ n3_ n4_ n5_; (try clear hb); (try clear hb2); (try clear hk); (try clear hi); (try clear ho0); obtain ⟨Ao65, co65, eo65⟩ := Kd.R_slice HO463.out; subst eo65; have p464 : 0 ≤ (0 : Int) := (by omega); have q464 : 0 < (t461.length : Int) := od; obtain ⟨ad464, e464, hx464_0⟩ := Kd.at_string (Kd.R_reads' HO463.out).2.2 0 p464 q464; cases e464; have qi464 : (0 < t461.length) = True := eq_true (by omega); (try rw [show ((0 : Int)).toNat = 0 from rfl] at hx464_0); (try rw [Addr.add_zero'] at hx464_0); replace p464 := eq_true p464; replace q464 := eq_true q464) | (go_at_call 68; (refine (bulletinref12_IsAtom.calls k3 ((rdOf ByteArray.empty y452 x11_3).extract 0 (((rdOf ByteArray.empty t461 0).size : Int) : Int).toNat) true _ A55.out).mono ?_); rintro e w' ⟨rfl, ⟨nd, rfl⟩⟩; (try (rw [drewN_self w64]; generalize hq_ : World.drewN w64 _ = w64; have n0_ : Aside0 (Kd.R Kd.string 9 w64 w.heap.size (fun k_ => some k_ ≠ (.slice (some ad455) y452.length co22 : Value).ownBlock) (.slice (some ad464) t461.length co65) t461) := ⟨by rw [← hq_]; exact (ra (Kd.R_mono HO463.out (fun _ hk => hk.2)))⟩; have n1_ : Aside0 (Kd.R k97 97 w64 w.heap.size (fun _ => True) u460001 x460001_3) := ⟨by rw [← hq_]; exact (ra HO_460001.out)⟩; have n2_ : Aside0 (Kd.R Kd.string 9 w64 w.heap.size (fun k_ => some k_ ≠ (.slice (some ad464) t461.length co65 : Value).ownBlock) (.slice (some ad455) y452.length co22) y452) := ⟨by rw [← hq_]; exact (ra (Kd.R_mono HO_6.out (fun _ hk => hk.2)))⟩; have n3_ : Aside0 (w64.heap[gb440]? = some (.cells #[.string x441000_3, .slice none 0 0] 47 (0, 0))) := ⟨by rw [← hq_]; exact bk⟩; have n4_ : Aside0 (w64.heap[gb459]? = some (.cells #[.string t458, u460001] 47 (0, 0))) := ⟨by rw [← hq_]; exact bk⟩; have n5_ : Aside0 (Below w.heap.size w w64) := ⟨by rw [← hq_]; exact bwS⟩; clear HO463 HO_460001 HO_6 BK440 BK459 HB hq_; have HO463 := n0_; have HO_460001 := n1_; have HO_6 := n2_; have BK440 := n3_; have BK459 := n4_; have HB := n5_; clear n0_ n1_ n2_ n3_ n4_ n5_))))
                      have n0_ := Aside0.mk (Kd.R_drew HO_6.out); have n1_ := Aside0.mk (Kd.R_drew HO_460001.out); have n2_ := Aside0.mk (Kd.R_drew HO463.out); have n3_ := Aside0.mk (blk_drew BK440.out); have n4_ := Aside0.mk (blk_drew BK459.out); have n5_ := Aside0.mk (below_drew1 HB.out); clear HO_6 HO_460001 HO463 BK440 BK459 HB; have HO_6 := n0_; have HO_460001 := n1_; have HO463 := n2_; have BK440 := n3_; have BK459 := n4_; have HB := n5_; clear n0_ n1_ n2_ n3_ n4_ n5_; refine start_ (n := 15) (S := fun w' => w'.cell? ⟨gb459, 0, none⟩ = some (.string t458) ∧ w'.cell? ⟨gb459, 1, none⟩ = some (u460001)) (ds := [14]) #[false, false, false, false, false, false, false, false, false, false, false, false, false, false, false] (by kernel_rfl) rfl rfl ⟨(blk_cell BK459.out 0).trans rfl, (blk_cell BK459.out 1).trans rfl⟩ (fun hHeld => ?_); refine with_tabW bulletinref20_ReadType.tab25 bulletinref20_ReadType.bits25 (fun HT_ HW_ => ?_)
                      generalize w64.drew = w66 at HO_6 HO_460001 HO463 BK440 BK459 HB hHeld ⊢
                      refine pure_ (i := 0) (N := some 112) (v := ?_) (a' := ?_) (bitsL 15 1) rfl rfl (any_of HT_.out (by kernel_rfl)) (fun _ _ _ h => h) (Or.inl ⟨by rfl, ?_⟩) ?_ ?_; rotate_left
                      ·intro w'; go_simp; with_reducible rfl
                      rotate_left
                      ·simp only [Act.put, List.setIfInBounds_toArray, List.set_cons_zero, List.set_cons_succ, i64_w, i32_w]; rfl
                      refine pure_ (i := 2) (N := some 114) (v := ?_) (a' := ?_) (bitsL 15 5) rfl rfl (any_of HT_.out (by kernel_rfl)) (fun _ _ _ h => h) (Or.inl ⟨by rfl, ?_⟩) ?_ ?_; rotate_left
                      ·intro w'; go_simp; with_reducible rfl
                      rotate_left
                      ·simp only [Act.put, List.setIfInBounds_toArray, List.set_cons_zero, List.set_cons_succ, i64_w, i32_w]; rfl
                      refine pure_ (i := 3) (N := some 115) (v := ?_) (a' := ?_) (bitsL 15 13) rfl rfl (any_of HT_.out (by kernel_rfl)) (fun _ _ _ h => h) (Or.inl ⟨by rfl, ?_⟩) ?_ ?_; rotate_left
                      ·intro w'; go_simp; with_reducible rfl
                      rotate_left
                      ·simp only [Act.put, List.setIfInBounds_toArray, List.set_cons_zero, List.set_cons_succ, i64_w, i32_w]; rfl
                      refine pure_ (i := 4) (N := some 116) (v := ?_) (a' := ?_) (bitsL 15 29) rfl rfl (any_of HT_.out (by kernel_rfl)) (fun _ _ _ h => h) (Or.inl ⟨by rfl, ?_⟩) ?_ ?_; rotate_left
                      ·intro w'; go_simp; with_reducible rfl
                      rotate_left
                      ·simp only [Act.put, List.setIfInBounds_toArray, List.set_cons_zero, List.set_cons_succ, i64_w, i32_w]; rfl
                      refine pure_ (i := 6) (N := some 118) (v := ?_) (a' := ?_) (bitsL 15 93) rfl rfl (any_of HT_.out (by kernel_rfl)) (fun _ _ _ h => h) (Or.inl ⟨by rfl, ?_⟩) ?_ ?_; rotate_left
                      ·intro w'; go_simp; with_reducible rfl
                      rotate_left
                      ·simp only [Act.put, List.setIfInBounds_toArray, List.set_cons_zero, List.set_cons_succ, i64_w, i32_w]; rfl
                      refine pure_ (i := 7) (N := some 119) (v := ?_) (a' := ?_) (bitsL 15 221) rfl rfl (any_of HT_.out (by kernel_rfl)) (fun _ _ _ h => h) (Or.inl ⟨by rfl, ?_⟩) ?_ ?_; rotate_left
                      ·intro w'; go_simp; with_reducible rfl
                      rotate_left
                      ·simp only [Act.put, List.setIfInBounds_toArray, List.set_cons_zero, List.set_cons_succ, i64_w, i32_w]; rfl
                      refine pure_ (i := 8) (N := some 120) (v := ?_) (a' := ?_) (bitsL 15 477) rfl rfl (any_of HT_.out (by kernel_rfl)) (fun _ _ _ h => h) (Or.inl ⟨by rfl, ?_⟩) ?_ ?_; rotate_left
                      ·intro w'; go_simp; with_reducible rfl
                      rotate_left
                      ·simp only [Act.put, List.setIfInBounds_toArray, List.set_cons_zero, List.set_cons_succ, i64_w, i32_w]; rfl
                      refine pure_ (i := 9) (N := some 121) (v := ?_) (a' := ?_) (bitsL 15 989) rfl rfl (any_of HT_.out (by kernel_rfl)) (fun _ _ _ h => h) (Or.inl ⟨by rfl, ?_⟩) ?_ ?_; rotate_left
                      ·intro w'; go_simp; with_reducible rfl
                      rotate_left
                      ·simp only [Act.put, List.setIfInBounds_toArray, List.set_cons_zero, List.set_cons_succ, i64_w, i32_w]; rfl
                      refine take_ (i := 1) (N := some 113) (v := ?_) (a' := ?_) (bitsL 15 991) rfl rfl (take_ofW HT_.out HW_.out (by kernel_rfl)) (fun _ _ _ h => h) (Or.inl ⟨by rfl, ?_⟩) hHeld ?_ ?_; rotate_left
                      ·rintro w' ⟨s0, s1⟩; go_simp; with_reducible rfl
                      rotate_left
                      ·simp only [Act.put, List.setIfInBounds_toArray, List.set_cons_zero, List.set_cons_succ, i64_w, i32_w]; rfl
                      refine one_ (i := 5) (N := some 117) (bitsL 15 1023) rfl rfl (one_of HT_.out (by kernel_rfl)) (by decide) (fun K hK => ?_); refine goes_ Tryd.func60 (by kernel_rfl) rfl #[.string ((rdOf ByteArray.empty y452 x11_3).extract 0 (((rdOf ByteArray.empty t461 0).size : Int) : Int).toNat)] (by rfl) rfl rfl am ?_; with_reducible refine (bulletinref06_Fold.calls k3 ((rdOf ByteArray.empty y452 x11_3).extract 0 (((rdOf ByteArray.empty t461 0).size : Int) : Int).toNat) t466 _ A59.out).mono ?_; rintro e w67 ⟨rfl, hb⟩; refine ⟨_, rfl, ?_⟩; have n0_ := Aside0.mk (Kd.R_below (ra HO_6.out) hb); have n1_ := Aside0.mk (Kd.R_below (ra HO_460001.out) hb); have n2_ := Aside0.mk (Kd.R_below (ra HO463.out) hb); have n3_ := Aside0.mk (blk_below (g := gb440) (o := .cells #[.string x441000_3, .slice none 0 0] 47 (0, 0)) bk hb); have n4_ := Aside0.mk (blk_below (g := gb459) (o := .cells #[.string t458, u460001] 47 (0, 0)) bk hb); have n5_ := Aside0.mk (below_step bwS hb); clear HO_6 HO_460001 HO463 BK440 BK459 HB; have HO_6 := n0_; have HO_460001 := n1_; have HO463 := n2_; have BK440 := n3_; have BK459 := n4_; have HB := n5_; clear n0_ n1_ n2_ n3_ n4_ n5_
                      (try clear hb)
                      (try clear hb2)
                      (try clear hk)
                      (try clear hi)
                      refine hK.out _ _ ⟨(blk_cell BK459.out 0).trans rfl, (blk_cell BK459.out 1).trans rfl⟩ (fun hHeld => ?_); clear hK K; refine norm_ (a' := ?_) ?_ ?_; rotate_left
                      ·show Act.put _ (some 117) _ = _
                       simp only [Act.put, List.setIfInBounds_toArray, List.set_cons_zero, List.set_cons_succ, i64_w, i32_w]; rfl
                      refine pure_ (i := 10) (N := some 122) (v := ?_) (a' := ?_) (bitsL 15 2047) rfl rfl (any_of HT_.out (by kernel_rfl)) (fun _ _ _ h => h) (Or.inl ⟨by rfl, ?_⟩) ?_ ?_; rotate_left
                      ·intro w'; go_simp; with_reducible rfl
                      rotate_left
                      ·simp only [Act.put, List.setIfInBounds_toArray, List.set_cons_zero, List.set_cons_succ, i64_w, i32_w]; rfl
                      refine one_ (i := 11) (N := some 123) (bitsL 15 4095) rfl rfl (one_of HT_.out (by kernel_rfl)) (by decide) (fun K hK => ?_); refine value_ (w1 := ?_) (v := ?_) (by rfl) rfl ?_ ?_; rotate_left 2
                      ·go_simp
                       constructor
                       ·rfl
                       ·rfl
                      refine hK.out _ _ ⟨(blk_cell (blk_alloc BK459.out _) 0).trans rfl, (blk_cell (blk_alloc BK459.out _) 1).trans rfl⟩ (fun hHeld => ?_); clear hK K; refine norm_ (a' := ?_) ?_ ?_; rotate_left
                      ·show Act.put _ (some 123) _ = _
                       simp only [Act.put, List.setIfInBounds_toArray, List.set_cons_zero, List.set_cons_succ, i64_w, i32_w]; rfl
                      refine one_ (i := 12) (N := some 124) (bitsL 15 8191) rfl rfl (one_of HT_.out (by kernel_rfl)) (by decide) (fun K hK => ?_); refine Kd.R_append_step k97 (w0 := w) w.heap.size (by rfl) (.tmp 113) (.tmp 123) 45 97 (.agg #[(.string ⟨#[]⟩), (.string ⟨#[]⟩)]) 32 rfl Tryd.underlying45 info97 rfl (by decide) (by omega) u460001 x460001_3 (⟨t466, (rdOf ByteArray.empty y452 x11_3).extract ((ji60) : Int).toNat (rdOf ByteArray.empty y452 x11_3).size⟩ : S97) [.string t466, .string ((rdOf ByteArray.empty y452 x11_3).extract ((ji60) : Int).toNat (rdOf ByteArray.empty y452 x11_3).size)] (fun _ => True) (fun _ => False) rfl rfl ?aP (fun _ hk => hk.elim) ?aF ?aO ?aB ?aS ?aL ?_
                      (case aP => exact k97_mkM _ _ _ (⟨t466, (rdOf ByteArray.empty y452 x11_3).extract ((ji60) : Int).toNat (rdOf ByteArray.empty y452 x11_3).size⟩ : S97))
                      (case aB => exact bwS)
                      (case aF => exact (fun _ _ => trivial))
                      (case aO => exact (ra HO_460001.out))
                      (case aS => exact (below_size bwS))
                      (case aL => have := LMc63.out; omega)
                      intro v468 w68 ho hb hg hat; rw [← Ny467.out] at ho; have n0_ := Aside0.mk (Kd.R_over' (ra HO_6.out) (Kd.R_typed (ra HO_460001.out)) (by decide) hg); have n1_ := Aside0.mk (blk_grown (g := gb440) (o := .cells #[.string x441000_3, .slice none 0 0] 47 (0, 0)) bk hg (Kd.R_ne HO_460001.out BK440.out (by decide))); have n2_ := Aside0.mk (blk_grown (g := gb459) (o := .cells #[.string t458, u460001] 47 (0, 0)) bk hg (Kd.R_ne HO_460001.out BK459.out (by decide))); have n3_ := Aside0.mk (Kd.R_over' (ra HO463.out) (Kd.R_typed (ra HO_460001.out)) (by decide) hg); have n4_ := Aside0.mk (hb); have n5_ := Aside0.mk (ho); clear HO_6 BK440 BK459 HO463 HB HO_460001; have HO_6 := n0_; have BK440 := n1_; have BK459 := n2_; have HO463 := n3_; have HB := n4_; have HO469 := n5_; clear n0_ n1_ n2_ n3_ n4_ n5_ ho hb hg hat; obtain ⟨Ao69, co69, eo69⟩ := Kd.R_slice HO469.out
                      (first | subst eo69 | (injection eo69 with f1_ f2_ f3_; have f4_ := f1_.symm; have f5_ := f3_.symm; clear f1_ f2_ f3_; subst f4_; subst f5_))
                      refine hK.out _ _ ⟨(blk_cell BK459.out 0).trans rfl, (blk_cell BK459.out 1).trans rfl⟩ (fun hHeld => ?_); clear hK K; refine norm_ (a' := ?_) ?_ ?_; rotate_left
                      ·show Act.put _ (some 124) _ = _
                       simp only [Act.put, List.setIfInBounds_toArray, List.set_cons_zero, List.set_cons_succ, i64_w, i32_w]; rfl
                      refine pure_ (i := 13) (N := some 125) (v := ?_) (a' := ?_) (bitsL 15 16383) rfl rfl (any_of HT_.out (by kernel_rfl)) (fun _ _ _ h => h) (Or.inl ⟨by rfl, ?_⟩) ?_ ?_; rotate_left
                      ·intro w'; go_simp; with_reducible rfl
                      rotate_left
                      ·simp only [Act.put, List.setIfInBounds_toArray, List.set_cons_zero, List.set_cons_succ, i64_w, i32_w]; rfl
                      refine last_ (i := 14) (N := none) (bitsL 15 32767) rfl rfl (one_of HT_.out (by kernel_rfl)) (by decide) (fun K hK => ?_); have hs70 : w68.cell? ⟨gb459, 1, none⟩ = some (u460001) := (blk_cell BK459.out 1).trans rfl; have hfs70 := blk_frozen BK459.out 1; have hns70_0 := NB440_459.out; have hms70_0 := NB459_440.out; refine skip_ (w1 := ?_) (by rfl) rfl ?_ ?_; rotate_left
                      ·go_simp; rfl
                      refine hK.out _ _ ?_; clear hK K; refine done_ (done_of HT_.out (by kernel_rfl)) ?_
                      try go_wp2
                      go_roundg k3
                      case measure => have := HK1.out; have := HJ18.out; have := HK3.out; omega
                      case rel => exact ⟨(wrap64 (x11_3 + 1)), (x441000_3), (y467), (.slice Ao69 y467.length co69), cl, H', ⟨by have := HK1.out; have := HJ18.out; have := HK3.out; omega⟩, ⟨by (with_reducible repeat (first | apply Kd.R_alloc | apply Kd.R_drewN | apply Kd.R_drew)); exact Kd.R_mono (Kd.R_far (p := ⟨gb459, 1, none⟩) (Kd.R_types HO_6.out BK459.out (by decide)) (fun _ hk => hk.2) (.slice Ao69 y467.length co69)) (fun _ hk => trivial)⟩, ⟨by (with_reducible repeat (first | apply Kd.R_alloc | apply Kd.R_drewN | apply Kd.R_drew)); exact Kd.R_mono (Kd.R_far (p := ⟨gb459, 1, none⟩) (Kd.R_types HO469.out BK459.out (by decide)) (fun _ hk => hk.2) (.slice Ao69 y467.length co69)) (fun _ hk => trivial)⟩, ⟨by (with_reducible repeat (first | refine blk_drewN ?_ _ | refine blk_drew ?_ | refine blk_alloc ?_ _)); refine blk_far ?_ NB440_459.out _; (with_reducible repeat (first | refine blk_drewN ?_ _ | refine blk_drew ?_ | refine blk_alloc ?_ _)); exact BK440.out⟩, ⟨by (with_reducible repeat (first | refine blk_drewN ?_ _ | refine blk_drew ?_ | refine blk_alloc ?_ _)); exact blk_put (cs := #[.string t458, u460001]) bk 1 _ rfl⟩, ⟨bwS⟩⟩
                     ·rw [if_neg c63] at H; exact absurd H (by simp)
                    ·rw [if_neg c62] at H; exact absurd H (by simp)
                   ·rw [if_neg c61] at H; exact absurd H (by simp)
                  ·replace c56 := Bool.eq_false_iff.mpr c56; subst c56; have H1 : (some ((⟨#[]⟩ : ByteArray), ([] : List (S97)), false)) = some (r1, r2, r3) := by rw [if_neg (show ¬ (false = true) by decide)] at H; exact H
                   clear H; have H := H1; clear H1; simp only [Option.some.injEq, Prod.mk.injEq] at H; obtain ⟨rfl, rfl, rfl⟩ := H; have p460 : 0 ≤ (x11_3 : Int) := od; have q460 : x11_3 < (y452.length : Int) := od; obtain ⟨ad460, e460, hx460_0⟩ := Kd.at_string (Kd.R_reads' HO_6.out).2.2 x11_3 p460 q460; obtain rfl : ad455 = ad460 := (by injection e460)
                   replace p460 := eq_true p460; replace q460 := eq_true q460
                   go_wp2_with (first | ((with_reducible refine gate_callee (f := 70) rfl ?_); refine goesL_ (some 96) rfl rfl Tryd.func70 (by kernel_rfl) rfl #[.string (rdOf ByteArray.empty y452 x11_3), .int .u8 61] rfl am ?_; (with_reducible refine (bulletinref13_Split.calls k3 (rdOf ByteArray.empty y452 x11_3) 61 t461 _ A46.out).mono ?_); rintro e w71 ⟨v462, rfl, ho0, hb⟩; refine ⟨_, rfl, ?_⟩; have n0_ := Aside0.mk (Kd.R_elder' (ra HO_6.out) (Kd.R_base ho0) hb); have n1_ := Aside0.mk (Kd.R_below (ra HO_460001.out) hb); have n2_ := Aside0.mk (Kd.R_lower (Kd.R_new' ho0 (Kd.R_lt (ra HO_6.out))) (below_size bwS)); have n3_ := Aside0.mk (blk_below (g := gb440) (o := .cells #[.string x441000_3, .slice none 0 0] 47 (0, 0)) bk hb); have n4_ := Aside0.mk (blk_below (g := gb459) (o := .cells #[.string t458, u460001] 47 (0, 0)) bk hb); have n5_ := Aside0.mk (below_step bwS hb); clear HO_6; clear HO_460001; clear BK440; clear BK459; clear HB; have HO_6 := n0_; have HO_460001 := n1_; have HO463 := n2_; have BK440 := n3_; have BK459 := n4_; have HB := n5_; clear n0_ n1_ n2_ n3_ n4_ n5_; (try clear hb); (try clear hb2); (try clear hk); (try clear hi); (try clear ho0); obtain ⟨Ao72, co72, eo72⟩ := Kd.R_slice HO463.out; subst eo72; have p464 : 0 ≤ (0 : Int) := (by omega); have q464 : 0 < (t461.length : Int) := od; obtain ⟨ad464, e464, hx464_0⟩ := Kd.at_string (Kd.R_reads' HO463.out).2.2 0 p464 q464; cases e464; have qi464 : (0 < t461.length) = True := eq_true (by omega); (try rw [show ((0 : Int)).toNat = 0 from rfl] at hx464_0); (try rw [Addr.add_zero'] at hx464_0); replace p464 := eq_true p464; replace q464 := eq_true q464) | (go_at_call 68; (refine (bulletinref12_IsAtom.calls k3 ((rdOf ByteArray.empty y452 x11_3).extract 0 (((rdOf ByteArray.empty t461 0).size : Int) : Int).toNat) false _ A55.out).mono ?_); rintro e w' ⟨rfl, ⟨nd, rfl⟩⟩; (try (rw [drewN_self w71]; generalize hq_ : World.drewN w71 _ = w71; have n0_ : Aside0 (Kd.R Kd.string 9 w71 w.heap.size (fun k_ => some k_ ≠ (.slice (some ad455) y452.length co22 : Value).ownBlock) (.slice (some ad464) t461.length co72) t461) := ⟨by rw [← hq_]; exact (ra (Kd.R_mono HO463.out (fun _ hk => hk.2)))⟩; have n1_ : Aside0 (Kd.R k97 97 w71 w.heap.size (fun _ => True) u460001 x460001_3) := ⟨by rw [← hq_]; exact (ra HO_460001.out)⟩; have n2_ : Aside0 (Kd.R Kd.string 9 w71 w.heap.size (fun k_ => some k_ ≠ (.slice (some ad464) t461.length co72 : Value).ownBlock) (.slice (some ad455) y452.length co22) y452) := ⟨by rw [← hq_]; exact (ra (Kd.R_mono HO_6.out (fun _ hk => hk.2)))⟩; have n3_ : Aside0 (w71.heap[gb440]? = some (.cells #[.string x441000_3, .slice none 0 0] 47 (0, 0))) := ⟨by rw [← hq_]; exact bk⟩; have n4_ : Aside0 (w71.heap[gb459]? = some (.cells #[.string t458, u460001] 47 (0, 0))) := ⟨by rw [← hq_]; exact bk⟩; have n5_ : Aside0 (Below w.heap.size w w71) := ⟨by rw [← hq_]; exact bwS⟩; clear HO463 HO_460001 HO_6 BK440 BK459 HB hq_; have HO463 := n0_; have HO_460001 := n1_; have HO_6 := n2_; have BK440 := n3_; have BK459 := n4_; have HB := n5_; clear n0_ n1_ n2_ n3_ n4_ n5_)); have hnb73 := NB440_459.out; have hnc73 := NB459_440.out; have hcz74_0 : w71.cell? ⟨gb440, 0, none⟩ = some (.string x441000_3) := (blk_cell BK440.out 0).trans rfl; have hcz74_1 : w71.cell? ⟨gb440, 1, none⟩ = some (.slice none 0 0) := (blk_cell BK440.out 1).trans rfl; have hfz74_0 := blk_frozen BK440.out 0; have hfz74_1 := blk_frozen BK440.out 1))
                   refine bodyPost_ret (results_ct rfl _ _ gb440 47 #[.string (⟨#[]⟩ : ByteArray), .slice none 0 0] (0, 0) _ rfl (by (with_reducible repeat (first | refine blk_drewN ?_ _ | refine blk_drew ?_ | refine blk_alloc ?_ _)); refine blk_put (cs := #[.string (⟨#[]⟩ : ByteArray), .slice none 0 0]) ?_ 1 _ rfl; (with_reducible repeat (first | refine blk_drewN ?_ _ | refine blk_drew ?_ | refine blk_alloc ?_ _)); exact blk_put (cs := #[.string x441000_3, .slice none 0 0]) bk 0 _ rfl) Tryd.underlying47 rfl (by kernel_rfl)) rfl ?_; exact ⟨_, ew, by first | exact Kd.R_nil _ _ _ _ _ | exact Kd.N_nil _ _ _ _ _ | exact Kd.V_nil _ _ _ _ _ | exact Kd.Q_nil _ _ _ _ _ | exact Kd.S_nil _ _ _ _ _, bwS⟩
                 ·rw [if_neg c54] at H; exact absurd H (by simp)
                ·rw [if_neg c53] at H; exact absurd H (by simp)
              ·rw [if_neg c47] at H; exact absurd H (by simp)
             ·rw [if_neg c45] at H; exact absurd H (by simp)
            ·rw [if_neg c44] at H; have c44b0 : decide (x11_3 < (y452.length : Int)) = false := decide_eq_false c44; clear c44; simp only [Option.some.injEq, Prod.mk.injEq] at H; obtain ⟨rfl, rfl, rfl⟩ := H; have hnb75 := NB459_440.out; have hnc75 := NB440_459.out; have hcz76_0 : wr.cell? ⟨gb459, 0, none⟩ = some (.string t458) := (blk_cell BK459.out 0).trans rfl; have hcz76_1 : wr.cell? ⟨gb459, 1, none⟩ = some (u460001) := (blk_cell BK459.out 1).trans rfl; have hfz76_0 := blk_frozen BK459.out 0; have hfz76_1 := blk_frozen BK459.out 1; have hcz77_0 : wr.cell? ⟨gb440, 0, none⟩ = some (.string x441000_3) := (blk_cell BK440.out 0).trans rfl; have hcz77_1 : wr.cell? ⟨gb440, 1, none⟩ = some (.slice none 0 0) := (blk_cell BK440.out 1).trans rfl; have hfz77_0 := blk_frozen BK440.out 0; have hfz77_1 := blk_frozen BK440.out 1; obtain ⟨Ao78, co78, eo78⟩ := Kd.R_slice HO_460001.out; subst eo78
             go_wp2
             refine bodyPost_ret (results_ct rfl _ _ gb440 47 #[.string t458, .slice Ao78 x460001_3.length co78] (0, 0) _ rfl (by (with_reducible repeat (first | refine blk_drewN ?_ _ | refine blk_drew ?_ | refine blk_alloc ?_ _)); refine blk_put (cs := #[.string t458, .slice none 0 0]) ?_ 1 _ rfl; (with_reducible repeat (first | refine blk_drewN ?_ _ | refine blk_drew ?_ | refine blk_alloc ?_ _)); exact blk_put (cs := #[.string x441000_3, .slice none 0 0]) bk 0 _ rfl) Tryd.underlying47 rfl (by kernel_rfl)) rfl ?_; exact ⟨_, ew, by (with_reducible repeat (first | apply Kd.R_alloc | apply Kd.R_drewN | apply Kd.R_drew)); exact Kd.R_mono (Kd.R_far (p := ⟨gb440, 1, none⟩) (Kd.R_far (p := ⟨gb440, 0, none⟩) (Kd.R_types HO_460001.out BK440.out (by decide)) (fun _ hk => hk.2) (.string t458)) (fun _ hk => hk.2) (.slice Ao78 x460001_3.length co78)) (fun _ hk => trivial), bwS⟩
      ·rw [if_neg c18] at H; exact absurd H (by simp)
     ·rw [if_neg c17] at H; exact absurd H (by simp)
 ·rw [if_neg c3] at H; have c3b0 : (t442 == 0) = false := beq_eq_false_iff_ne.mpr c3; have c3b1 : (t442 != 0) = true := bne_iff_ne.mpr c3; simp only [Option.some.injEq, Prod.mk.injEq] at H; obtain ⟨rfl, rfl, rfl⟩ := H
  go_enter Tryd.func28, Tryd.ntmps28
  go_wp2_with (first | ((with_reducible refine gate_dst (N := 2) rfl ?_); (try (refine gate_guard (by rfl) ?_; dsimp only)); refine box_event ?hg (N := 2) ?hd (cs := #[.string (⟨#[]⟩ : ByteArray), .slice none 0 0]) (t := 47) ?hr ?_; (case hd => rfl); (case hg => rfl); (case hr => first | (go_simp; done) | (go_simp; rfl)); intro gb440 hg w79 hbox hb; have n0_ := Aside0.mk (below_step bw hb); have n1_ := Aside0.mk (hbox); have n2_ := Aside0.mk ((by rw [hg]; exact (below_size bw) : w.heap.size ≤ gb440)); have n3_ := Aside0.mk ((by rw [hg]; exact (below_size bw) : w.heap.size ≤ gb440)); clear HB; have HB := n0_; have BK440 := n1_; have GW440 := n2_; have GE440 := n3_; clear n0_ n1_ n2_ n3_; clear hb hbox hg) | ((with_reducible refine gate_callee (f := 67) rfl ?_); refine goesL_ (some 16) rfl rfl Tryd.func67 (by kernel_rfl) rfl #[.string a0] rfl am ?_; (with_reducible refine (bulletinref12_Scan.calls k a0 t441 t442 _ A2.out).mono ?_); rintro e w80 ⟨v443, rfl, ho0, hb⟩; refine ⟨_, rfl, ?_⟩; have n0_ := Aside0.mk (Kd.R_lower ho0 (below_size bwS)); have n1_ := Aside0.mk (blk_below (g := gb440) (o := .cells #[.string (⟨#[]⟩ : ByteArray), .slice none 0 0] 47 (0, 0)) bk hb); have n2_ := Aside0.mk (below_step bwS hb); clear BK440; clear HB; have HO444 := n0_; have BK440 := n1_; have HB := n2_; clear n0_ n1_ n2_; (try clear hb); (try clear hb2); (try clear hk); (try clear hi); (try clear ho0); have hcz81_0 : w80.cell? ⟨gb440, 0, none⟩ = some (.string (⟨#[]⟩ : ByteArray)) := (blk_cell BK440.out 0).trans rfl; have hcz81_1 : w80.cell? ⟨gb440, 1, none⟩ = some (.slice none 0 0) := (blk_cell BK440.out 1).trans rfl; have hfz81_0 := blk_frozen BK440.out 0; have hfz81_1 := blk_frozen BK440.out 1))
  refine bodyPost_ret (results_ct rfl _ _ gb440 47 #[.string (⟨#[]⟩ : ByteArray), .slice none 0 0] (0, 0) _ rfl (by (with_reducible repeat (first | refine blk_drewN ?_ _ | refine blk_drew ?_ | refine blk_alloc ?_ _)); refine blk_put (cs := #[.string (⟨#[]⟩ : ByteArray), .slice none 0 0]) ?_ 1 _ rfl; (with_reducible repeat (first | refine blk_drewN ?_ _ | refine blk_drew ?_ | refine blk_alloc ?_ _)); exact blk_put (cs := #[.string (⟨#[]⟩ : ByteArray), .slice none 0 0]) bk 0 _ rfl) Tryd.underlying47 rfl (by kernel_rfl)) rfl ?_; exact ⟨_, ew, by first | exact Kd.R_nil _ _ _ _ _ | exact Kd.N_nil _ _ _ _ _ | exact Kd.V_nil _ _ _ _ _ | exact Kd.Q_nil _ _ _ _ _ | exact Kd.S_nil _ _ _ _ _, bwS⟩

end Go.Proofs.YtoikneogdbdplaaDoor.Fn
namespace Go.Proofs.YtoikneogdbdplaaDoor.Fn
open Go.RowKit Go.Proofs.YtoikneogdbdplaaDoorW.PrintWords Go.Proofs.YtoikneogdbdplaaDoorW.PrintLast Go.Proofs.YtoikneogdbdplaaDoorW.PrintMore
attribute [local go_sem] max2_int min2_int max_two min_two max_three min_three max_four min_four
set_option linter.unusedVariables false
set_option linter.unusedSimpArgs false

mutual
def bulletinref12_Quote.l0 : Nat → ByteArray → ByteArray → Int → Option (ByteArray)
 | 0, _, _, _ => none
 | k + 1, x0, x3, x4 => if x4 < (x0.size : Int) then (if 0 ≤ x4 then (if x4 ≤ (wrap64 (x4 + 1)) then (if (wrap64 (x4 + 1)) ≤ (x0.size : Int) then (if (bt x0 x4) = 34 then (bulletinref12_Quote.j1 k x0 x3 x4 (x0.extract (x4 : Int).toNat ((wrap64 (x4 + 1)) : Int).toNat) true) else (bulletinref12_Quote.j1 k x0 x3 x4 (x0.extract (x4 : Int).toNat ((wrap64 (x4 + 1)) : Int).toNat) ((bt x0 x4) == 92))) else (none)) else (none)) else (none)) else (if 1 + x3.size ≤ 9223372036854775807 then (if ((⟨#[34]⟩ : ByteArray) ++ x3).size + 1 ≤ 9223372036854775807 then (some (((⟨#[34]⟩ : ByteArray) ++ x3) ++ (⟨#[34]⟩ : ByteArray))) else (none)) else (none))
def bulletinref12_Quote.j1 : Nat → ByteArray → ByteArray → Int → ByteArray → Bool → Option (ByteArray)
 | 0, _, _, _, _, _ => none
 | k + 1, x0, x3, x4, x5, x26 => if x26 = true then (if 1 + x5.size ≤ 9223372036854775807 then (if 0 ≤ x4 then (if x4 < (x0.size : Int) then ((bulletinref12_Text.f (bt x0 x4)).bind fun t488 => (if t488 = true then (if x3.size + ((⟨#[92]⟩ : ByteArray) ++ x5).size ≤ 9223372036854775807 then (bulletinref12_Quote.l0 k x0 (x3 ++ ((⟨#[92]⟩ : ByteArray) ++ x5)) (wrap64 (x4 + 1))) else (none)) else (if x3.size + 1 ≤ 9223372036854775807 then (bulletinref12_Quote.l0 k x0 (x3 ++ (⟨#[32]⟩ : ByteArray)) (wrap64 (x4 + 1))) else (none)))) else (none)) else (none)) else (none)) else (if 0 ≤ x4 then (if x4 < (x0.size : Int) then ((bulletinref12_Text.f (bt x0 x4)).bind fun t489 => (if t489 = true then (if x3.size + x5.size ≤ 9223372036854775807 then (bulletinref12_Quote.l0 k x0 (x3 ++ x5) (wrap64 (x4 + 1))) else (none)) else (if x3.size + 1 ≤ 9223372036854775807 then (bulletinref12_Quote.l0 k x0 (x3 ++ (⟨#[32]⟩ : ByteArray)) (wrap64 (x4 + 1))) else (none)))) else (none)) else (none))
end
def bulletinref12_Quote.f (k : Nat) (a0 : ByteArray) : Option (ByteArray) := bulletinref12_Quote.l0 k a0 (⟨#[]⟩ : ByteArray) 0
set_option maxHeartbeats 8000000 in
set_option maxRecDepth 100000 in
theorem bulletinref12_Quote.calls (k : Nat) (a0 : ByteArray) (r : ByteArray) (w : World) (h : bulletinref12_Quote.f k a0 = some r) :
  Calls Tryd.prog 72 #[.string a0] w fun e w' => e = .returned (.string r) ∧ Drawn0 w w' := by
 have H : (bulletinref12_Quote.l0 k a0 (⟨#[]⟩ : ByteArray) 0) = some r := h; clear h; have H' := Aside0.mk H; clear H
 go_enter Tryd.func72, Tryd.ntmps72
 go_wp2
 go_loopg [3, 4] k (fun kq v3 v4 w' => ∃ (x3_1 : ByteArray) (x4_1 : Int), v3 = .string x3_1 ∧ v4 = .int .i64 x4_1 ∧ Aside0 (bulletinref12_Quote.l0 kq a0 x3_1 x4_1 = some r) ∧ Aside0 (kq ≤ k) ∧ Drawn0 w w')
 case atStart => exact ⟨((⟨#[]⟩ : ByteArray)), (0), cl, cl, H', ⟨Nat.le_refl _⟩, d0⟩
 case round =>
  clear H'; obtain ⟨x3_1, x4_1, rfl, rfl, HA, HK1, ⟨m1, rfl⟩⟩ := hrel; cases gk with
  | zero => exact absurd HA.out (by simp [bulletinref12_Quote.l0])
  | succ k1 =>
   have H := HA.out; clear HA; simp only [bulletinref12_Quote.l0] at H
   by_cases c2 : x4_1 < (a0.size : Int)
   ·rw [if_pos c2] at H; have c2b0 : decide (x4_1 < (a0.size : Int)) = true := decide_eq_true c2; clear c2
    by_cases c3 : 0 ≤ x4_1
    ·rw [if_pos c3] at H; have c3b0 := eq_true c3; have c3b1 : decide (0 ≤ x4_1) = true := decide_eq_true c3; clear c3
     by_cases c4 : x4_1 ≤ (wrap64 (x4_1 + 1))
     ·rw [if_pos c4] at H; have c4b0 := eq_true c4; have c4b1 : decide (x4_1 ≤ (wrap64 (x4_1 + 1))) = true := decide_eq_true c4
      by_cases c5 : (wrap64 (x4_1 + 1)) ≤ (a0.size : Int)
      ·rw [if_pos c5] at H; have c5b0 := eq_true c5; have c5b1 : decide ((wrap64 (x4_1 + 1)) ≤ (a0.size : Int)) = true := decide_eq_true c5; have HC6 := Aside0.mk H; clear H
       go_upto_region 6 with (fail)
       go_cut [26] (fun v26 wc => ∃ (kq : Nat) (x26_5 : Bool), v26 = .bool x26_5 ∧ Aside0 (bulletinref12_Quote.j1 kq a0 x3_1 x4_1 (a0.extract (x4_1 : Int).toNat ((wrap64 (x4_1 + 1)) : Int).toNat) x26_5 = some r) ∧ Aside0 (kq ≤ k1) ∧ Drawn0 w wc)
       case first =>
        have H := HC6.out; clear HC6
        by_cases c8 : (bt a0 x4_1) = 34
        ·rw [if_pos c8] at H; have c8b0 : ((bt a0 x4_1) == 34) = true := beq_iff_eq.mpr c8; have c8b1 : ((bt a0 x4_1) != 34) = false := bne_eq_false_iff_eq.mpr c8; clear c8
         (first | rw [c8b0] | (simp only [i64_w, i32_w]; rw [c8b0]) | skip)
         have H' := Aside0.mk H; clear H; have p7 : 0 ≤ (x4_1 : Int) := od; have q7 : x4_1 < (a0.size : Int) := od; have hx7 := bt_at a0 x4_1; replace p7 := eq_true p7; replace q7 := eq_true q7
         go_wp2
         go_meet
         case rel => exact ⟨_, (true), cl, H', ⟨by have := HK1.out; first | omega | exact Nat.le_refl _⟩, d0⟩
        ·rw [if_neg c8] at H; have c8b0 : ((bt a0 x4_1) == 34) = false := beq_eq_false_iff_ne.mpr c8; have c8b1 : ((bt a0 x4_1) != 34) = true := bne_iff_ne.mpr c8
         (first | rw [c8b0] | (simp only [i64_w, i32_w]; rw [c8b0]) | skip)
         have H' := Aside0.mk H; clear H; have p7 : 0 ≤ (x4_1 : Int) := od; have q7 : x4_1 < (a0.size : Int) := od; have hx7 := bt_at a0 x4_1; replace p7 := eq_true p7; replace q7 := eq_true q7; have p9 : 0 ≤ (x4_1 : Int) := od; have q9 : x4_1 < (a0.size : Int) := od; have hx9 := bt_at a0 x4_1; replace p9 := eq_true p9; replace q9 := eq_true q9
         go_wp2
         go_meet
         case rel => exact ⟨_, (((bt a0 x4_1) == 92)), cl, H', ⟨by have := HK1.out; first | omega | exact Nat.le_refl _⟩, d0⟩
       case rest =>
        clear HC6
        try clear c2
        try clear c2b0
        try clear p2
        try clear c3
        try clear c3b0
        try clear c3b1
        try clear c4
        try clear c4b0
        try clear c4b1
        try clear c5
        try clear c5b0
        try clear c5b1
        try clear p6
        try clear c7
        try clear p7
        try clear q7
        try clear hx7
        try clear c8
        try clear c8b0
        try clear c8b1
        try clear p9
        try clear q9
        try clear hx9
        try clear p7
        try clear p9
        try clear q7
        try clear q9
        obtain ⟨kq, x26_5, rfl, HA, HJ5, ⟨mc5, rfl⟩⟩ := hcut; cases kq with
        | zero => exact absurd HA.out (by simp [bulletinref12_Quote.j1])
        | succ kj5 =>
         have H := HA.out; clear HA; simp only [bulletinref12_Quote.j1] at H
         by_cases c10 : x26_5 = true
         ·subst c10; have H1 : (if 1 + (a0.extract (x4_1 : Int).toNat ((wrap64 (x4_1 + 1)) : Int).toNat).size ≤ 9223372036854775807 then (if 0 ≤ x4_1 then (if x4_1 < (a0.size : Int) then ((bulletinref12_Text.f (bt a0 x4_1)).bind fun t488 => (if t488 = true then (if x3_1.size + ((⟨#[92]⟩ : ByteArray) ++ (a0.extract (x4_1 : Int).toNat ((wrap64 (x4_1 + 1)) : Int).toNat)).size ≤ 9223372036854775807 then (bulletinref12_Quote.l0 kj5 a0 (x3_1 ++ ((⟨#[92]⟩ : ByteArray) ++ (a0.extract (x4_1 : Int).toNat ((wrap64 (x4_1 + 1)) : Int).toNat))) (wrap64 (x4_1 + 1))) else (none)) else (if x3_1.size + 1 ≤ 9223372036854775807 then (bulletinref12_Quote.l0 kj5 a0 (x3_1 ++ (⟨#[32]⟩ : ByteArray)) (wrap64 (x4_1 + 1))) else (none)))) else (none)) else (none)) else (none)) = some r := by rw [if_pos rfl] at H; exact H
          clear H; have H := H1; clear H1
          by_cases c11 : 1 + (a0.extract (x4_1 : Int).toNat ((wrap64 (x4_1 + 1)) : Int).toNat).size ≤ 9223372036854775807
          ·rw [if_pos c11] at H; have c11b0 := eq_true c11; have c11b1 : decide (1 + (a0.extract (x4_1 : Int).toNat ((wrap64 (x4_1 + 1)) : Int).toNat).size ≤ 9223372036854775807) = true := decide_eq_true c11
           try have c11b2 : (9223372036854775807 < 1 + (a0.extract (x4_1 : Int).toNat ((wrap64 (x4_1 + 1)) : Int).toNat).size) = False := eq_false (Nat.not_lt.2 c11)
           try (have c11b3 := c11; simp only [ByteArray.size_append, size_lit, ByteArray.size_extract, List.size_toArray, List.length_cons, List.length_nil, Nat.zero_add, Nat.reduceAdd] at c11b3; have c11b4 := eq_false (Nat.not_lt.2 c11b3))
           by_cases c12 : 0 ≤ x4_1
           ·rw [if_pos c12] at H; have c12b0 : decide (0 ≤ x4_1) = true := decide_eq_true c12; clear c12
            by_cases c13 : x4_1 < (a0.size : Int)
            ·rw [if_pos c13] at H; have c13b0 : decide (x4_1 < (a0.size : Int)) = true := decide_eq_true c13; clear c13; replace H := Option.bind_eq_some_iff.mp H; obtain ⟨t488, A150, H⟩ := H; replace H : (if t488 = true then (if x3_1.size + ((⟨#[92]⟩ : ByteArray) ++ (a0.extract (x4_1 : Int).toNat ((wrap64 (x4_1 + 1)) : Int).toNat)).size ≤ 9223372036854775807 then (bulletinref12_Quote.l0 kj5 a0 (x3_1 ++ ((⟨#[92]⟩ : ByteArray) ++ (a0.extract (x4_1 : Int).toNat ((wrap64 (x4_1 + 1)) : Int).toNat))) (wrap64 (x4_1 + 1))) else (none)) else (if x3_1.size + 1 ≤ 9223372036854775807 then (bulletinref12_Quote.l0 kj5 a0 (x3_1 ++ (⟨#[32]⟩ : ByteArray)) (wrap64 (x4_1 + 1))) else (none))) = some r := H; have A15 := Aside0.mk A150; clear A150
             by_cases c16 : t488 = true
             ·subst c16; have H1 : (if x3_1.size + ((⟨#[92]⟩ : ByteArray) ++ (a0.extract (x4_1 : Int).toNat ((wrap64 (x4_1 + 1)) : Int).toNat)).size ≤ 9223372036854775807 then (bulletinref12_Quote.l0 kj5 a0 (x3_1 ++ ((⟨#[92]⟩ : ByteArray) ++ (a0.extract (x4_1 : Int).toNat ((wrap64 (x4_1 + 1)) : Int).toNat))) (wrap64 (x4_1 + 1))) else (none)) = some r := by rw [if_pos rfl] at H; exact H
              clear H; have H := H1; clear H1
              by_cases c17 : x3_1.size + ((⟨#[92]⟩ : ByteArray) ++ (a0.extract (x4_1 : Int).toNat ((wrap64 (x4_1 + 1)) : Int).toNat)).size ≤ 9223372036854775807
              ·rw [if_pos c17] at H; have c17b0 := eq_true c17; have c17b1 : decide (x3_1.size + ((⟨#[92]⟩ : ByteArray) ++ (a0.extract (x4_1 : Int).toNat ((wrap64 (x4_1 + 1)) : Int).toNat)).size ≤ 9223372036854775807) = true := decide_eq_true c17
               try have c17b2 : (9223372036854775807 < x3_1.size + ((⟨#[92]⟩ : ByteArray) ++ (a0.extract (x4_1 : Int).toNat ((wrap64 (x4_1 + 1)) : Int).toNat)).size) = False := eq_false (Nat.not_lt.2 c17)
               try (have c17b3 := c17; simp only [ByteArray.size_append, size_lit, ByteArray.size_extract, List.size_toArray, List.length_cons, List.length_nil, Nat.zero_add, Nat.reduceAdd] at c17b3; have c17b4 := eq_false (Nat.not_lt.2 c17b3))
               have H' := Aside0.mk H; clear H; have p14 : 0 ≤ (x4_1 : Int) := od; have q14 : x4_1 < (a0.size : Int) := od; have hx14 := bt_at a0 x4_1; replace p14 := eq_true p14; replace q14 := eq_true q14
               go_wp2_with (first | ((with_reducible refine gate_callee (f := 104) rfl ?_); refine goesL_ (some 32) rfl rfl Tryd.func104 (by kernel_rfl) rfl #[.int .u8 (bt a0 x4_1)] rfl am ?_; (with_reducible refine (bulletinref12_Text.calls (bt a0 x4_1) true _ A15.out).mono ?_); rintro e w' ⟨rfl, ⟨nd, rfl⟩⟩; refine ⟨_, rfl, ?_⟩))
               go_roundg kj5
               case measure => have := HK1.out; have := HJ5.out; omega
               case rel => exact ⟨(x3_1 ++ ((⟨#[92]⟩ : ByteArray) ++ (a0.extract (x4_1 : Int).toNat ((wrap64 (x4_1 + 1)) : Int).toNat))), (wrap64 (x4_1 + 1)), cl, cl, H', ⟨by have := HK1.out; have := HJ5.out; omega⟩, d0⟩
              ·rw [if_neg c17] at H; exact absurd H (by simp)
             ·replace c16 := Bool.eq_false_iff.mpr c16; subst c16; have H1 : (if x3_1.size + 1 ≤ 9223372036854775807 then (bulletinref12_Quote.l0 kj5 a0 (x3_1 ++ (⟨#[32]⟩ : ByteArray)) (wrap64 (x4_1 + 1))) else (none)) = some r := by rw [if_neg (show ¬ (false = true) by decide)] at H; exact H
              clear H; have H := H1; clear H1
              by_cases c18 : x3_1.size + 1 ≤ 9223372036854775807
              ·rw [if_pos c18] at H; have c18b0 := eq_true c18; have c18b1 : decide (x3_1.size + 1 ≤ 9223372036854775807) = true := decide_eq_true c18
               try have c18b2 : (9223372036854775807 < x3_1.size + 1) = False := eq_false (Nat.not_lt.2 c18)
               have H' := Aside0.mk H; clear H; have p14 : 0 ≤ (x4_1 : Int) := od; have q14 : x4_1 < (a0.size : Int) := od; have hx14 := bt_at a0 x4_1; replace p14 := eq_true p14; replace q14 := eq_true q14
               go_wp2_with (first | ((with_reducible refine gate_callee (f := 104) rfl ?_); refine goesL_ (some 32) rfl rfl Tryd.func104 (by kernel_rfl) rfl #[.int .u8 (bt a0 x4_1)] rfl am ?_; (with_reducible refine (bulletinref12_Text.calls (bt a0 x4_1) false _ A15.out).mono ?_); rintro e w' ⟨rfl, ⟨nd, rfl⟩⟩; refine ⟨_, rfl, ?_⟩))
               go_roundg kj5
               case measure => have := HK1.out; have := HJ5.out; omega
               case rel => exact ⟨(x3_1 ++ (⟨#[32]⟩ : ByteArray)), (wrap64 (x4_1 + 1)), cl, cl, H', ⟨by have := HK1.out; have := HJ5.out; omega⟩, d0⟩
              ·rw [if_neg c18] at H; exact absurd H (by simp)
            ·rw [if_neg c13] at H; exact absurd H (by simp)
           ·rw [if_neg c12] at H; exact absurd H (by simp)
          ·rw [if_neg c11] at H; exact absurd H (by simp)
         ·replace c10 := Bool.eq_false_iff.mpr c10; subst c10; have H1 : (if 0 ≤ x4_1 then (if x4_1 < (a0.size : Int) then ((bulletinref12_Text.f (bt a0 x4_1)).bind fun t489 => (if t489 = true then (if x3_1.size + (a0.extract (x4_1 : Int).toNat ((wrap64 (x4_1 + 1)) : Int).toNat).size ≤ 9223372036854775807 then (bulletinref12_Quote.l0 kj5 a0 (x3_1 ++ (a0.extract (x4_1 : Int).toNat ((wrap64 (x4_1 + 1)) : Int).toNat)) (wrap64 (x4_1 + 1))) else (none)) else (if x3_1.size + 1 ≤ 9223372036854775807 then (bulletinref12_Quote.l0 kj5 a0 (x3_1 ++ (⟨#[32]⟩ : ByteArray)) (wrap64 (x4_1 + 1))) else (none)))) else (none)) else (none)) = some r := by rw [if_neg (show ¬ (false = true) by decide)] at H; exact H
          clear H; have H := H1; clear H1
          by_cases c19 : 0 ≤ x4_1
          ·rw [if_pos c19] at H; have c19b0 : decide (0 ≤ x4_1) = true := decide_eq_true c19; clear c19
           by_cases c20 : x4_1 < (a0.size : Int)
           ·rw [if_pos c20] at H; have c20b0 : decide (x4_1 < (a0.size : Int)) = true := decide_eq_true c20; clear c20; replace H := Option.bind_eq_some_iff.mp H; obtain ⟨t489, A220, H⟩ := H; replace H : (if t489 = true then (if x3_1.size + (a0.extract (x4_1 : Int).toNat ((wrap64 (x4_1 + 1)) : Int).toNat).size ≤ 9223372036854775807 then (bulletinref12_Quote.l0 kj5 a0 (x3_1 ++ (a0.extract (x4_1 : Int).toNat ((wrap64 (x4_1 + 1)) : Int).toNat)) (wrap64 (x4_1 + 1))) else (none)) else (if x3_1.size + 1 ≤ 9223372036854775807 then (bulletinref12_Quote.l0 kj5 a0 (x3_1 ++ (⟨#[32]⟩ : ByteArray)) (wrap64 (x4_1 + 1))) else (none))) = some r := H; have A22 := Aside0.mk A220; clear A220
            by_cases c23 : t489 = true
            ·subst c23; have H1 : (if x3_1.size + (a0.extract (x4_1 : Int).toNat ((wrap64 (x4_1 + 1)) : Int).toNat).size ≤ 9223372036854775807 then (bulletinref12_Quote.l0 kj5 a0 (x3_1 ++ (a0.extract (x4_1 : Int).toNat ((wrap64 (x4_1 + 1)) : Int).toNat)) (wrap64 (x4_1 + 1))) else (none)) = some r := by rw [if_pos rfl] at H; exact H
             clear H; have H := H1; clear H1
             by_cases c24 : x3_1.size + (a0.extract (x4_1 : Int).toNat ((wrap64 (x4_1 + 1)) : Int).toNat).size ≤ 9223372036854775807
             ·rw [if_pos c24] at H; have c24b0 := eq_true c24; have c24b1 : decide (x3_1.size + (a0.extract (x4_1 : Int).toNat ((wrap64 (x4_1 + 1)) : Int).toNat).size ≤ 9223372036854775807) = true := decide_eq_true c24
              try have c24b2 : (9223372036854775807 < x3_1.size + (a0.extract (x4_1 : Int).toNat ((wrap64 (x4_1 + 1)) : Int).toNat).size) = False := eq_false (Nat.not_lt.2 c24)
              try (have c24b3 := c24; simp only [ByteArray.size_append, size_lit, ByteArray.size_extract, List.size_toArray, List.length_cons, List.length_nil, Nat.zero_add, Nat.reduceAdd] at c24b3; have c24b4 := eq_false (Nat.not_lt.2 c24b3))
              have H' := Aside0.mk H; clear H; have p21 : 0 ≤ (x4_1 : Int) := od; have q21 : x4_1 < (a0.size : Int) := od; have hx21 := bt_at a0 x4_1; replace p21 := eq_true p21; replace q21 := eq_true q21
              go_wp2_with (first | ((with_reducible refine gate_callee (f := 104) rfl ?_); refine goesL_ (some 32) rfl rfl Tryd.func104 (by kernel_rfl) rfl #[.int .u8 (bt a0 x4_1)] rfl am ?_; (with_reducible refine (bulletinref12_Text.calls (bt a0 x4_1) true _ A22.out).mono ?_); rintro e w' ⟨rfl, ⟨nd, rfl⟩⟩; refine ⟨_, rfl, ?_⟩))
              go_roundg kj5
              case measure => have := HK1.out; have := HJ5.out; omega
              case rel => exact ⟨(x3_1 ++ (a0.extract (x4_1 : Int).toNat ((wrap64 (x4_1 + 1)) : Int).toNat)), (wrap64 (x4_1 + 1)), cl, cl, H', ⟨by have := HK1.out; have := HJ5.out; omega⟩, d0⟩
             ·rw [if_neg c24] at H; exact absurd H (by simp)
            ·replace c23 := Bool.eq_false_iff.mpr c23; subst c23; have H1 : (if x3_1.size + 1 ≤ 9223372036854775807 then (bulletinref12_Quote.l0 kj5 a0 (x3_1 ++ (⟨#[32]⟩ : ByteArray)) (wrap64 (x4_1 + 1))) else (none)) = some r := by rw [if_neg (show ¬ (false = true) by decide)] at H; exact H
             clear H; have H := H1; clear H1
             by_cases c25 : x3_1.size + 1 ≤ 9223372036854775807
             ·rw [if_pos c25] at H; have c25b0 := eq_true c25; have c25b1 : decide (x3_1.size + 1 ≤ 9223372036854775807) = true := decide_eq_true c25
              try have c25b2 : (9223372036854775807 < x3_1.size + 1) = False := eq_false (Nat.not_lt.2 c25)
              have H' := Aside0.mk H; clear H; have p21 : 0 ≤ (x4_1 : Int) := od; have q21 : x4_1 < (a0.size : Int) := od; have hx21 := bt_at a0 x4_1; replace p21 := eq_true p21; replace q21 := eq_true q21
              go_wp2_with (first | ((with_reducible refine gate_callee (f := 104) rfl ?_); refine goesL_ (some 32) rfl rfl Tryd.func104 (by kernel_rfl) rfl #[.int .u8 (bt a0 x4_1)] rfl am ?_; (with_reducible refine (bulletinref12_Text.calls (bt a0 x4_1) false _ A22.out).mono ?_); rintro e w' ⟨rfl, ⟨nd, rfl⟩⟩; refine ⟨_, rfl, ?_⟩))
              go_roundg kj5
              case measure => have := HK1.out; have := HJ5.out; omega
              case rel => exact ⟨(x3_1 ++ (⟨#[32]⟩ : ByteArray)), (wrap64 (x4_1 + 1)), cl, cl, H', ⟨by have := HK1.out; have := HJ5.out; omega⟩, d0⟩
             ·rw [if_neg c25] at H; exact absurd H (by simp)
           ·rw [if_neg c20] at H; exact absurd H (by simp)
          ·rw [if_neg c19] at H; exact absurd H (by simp)
      ·rw [if_neg c5] at H; exact absurd H (by simp)
     ·rw [if_neg c4] at H; exact absurd H (by simp)
    ·rw [if_neg c3] at H; exact absurd H (by simp)
   ·rw [if_neg c2] at H; have c2b0 : decide (x4_1 < (a0.size : Int)) = false := decide_eq_false c2; clear c2
    by_cases c26 : 1 + x3_1.size ≤ 9223372036854775807
    ·rw [if_pos c26] at H; have c26b0 := eq_true c26; have c26b1 : decide (1 + x3_1.size ≤ 9223372036854775807) = true := decide_eq_true c26
     try have c26b2 : (9223372036854775807 < 1 + x3_1.size) = False := eq_false (Nat.not_lt.2 c26)
     by_cases c27 : ((⟨#[34]⟩ : ByteArray) ++ x3_1).size + 1 ≤ 9223372036854775807
     ·rw [if_pos c27] at H; have c27b0 := eq_true c27; have c27b1 : decide (((⟨#[34]⟩ : ByteArray) ++ x3_1).size + 1 ≤ 9223372036854775807) = true := decide_eq_true c27
      try have c27b2 : (9223372036854775807 < ((⟨#[34]⟩ : ByteArray) ++ x3_1).size + 1) = False := eq_false (Nat.not_lt.2 c27)
      try (have c27b3 := c27; simp only [ByteArray.size_append, size_lit, ByteArray.size_extract, List.size_toArray, List.length_cons, List.length_nil, Nat.zero_add, Nat.reduceAdd] at c27b3; have c27b4 := eq_false (Nat.not_lt.2 c27b3))
      obtain rfl := Option.some.inj H
      go_wp2
      go_ret
      exact ⟨cl, d0⟩
     ·rw [if_neg c27] at H; exact absurd H (by simp)
    ·rw [if_neg c26] at H; exact absurd H (by simp)

end Go.Proofs.YtoikneogdbdplaaDoor.Fn
namespace Go.Proofs.YtoikneogdbdplaaDoor.Fn
open Go.RowKit Go.Proofs.YtoikneogdbdplaaDoorW.PrintWords Go.Proofs.YtoikneogdbdplaaDoorW.PrintLast Go.Proofs.YtoikneogdbdplaaDoorW.PrintMore
attribute [local go_sem] max2_int min2_int max_two min_two max_three min_three max_four min_four
set_option linter.unusedVariables false
set_option linter.unusedSimpArgs false

def bulletinref20_Text.l0 : Nat → ByteArray → Int → ByteArray → List (S97) → Option (ByteArray)
 | 0, _, _, _, _ => none
 | k + 1, x3, x4, x491000, x491001 => if x4 < (x491001.length : Int) then (if 0 ≤ x4 then ((bulletinref12_IsAtom.f k ((rd_T97 x491001 x4).f1)).bind fun t492 => (if t492 = true then ((bulletinref20_has.f k ((rd_T97 x491001 x4).f1) 61).bind fun t493 => ((bulletinref20_has.f k ((rd_T97 x491001 x4).f1) 47).bind fun t494 => ((bulletinref20_has.f k ((rd_T97 x491001 x4).f1) 63).bind fun t495 => (if (wrap64 ((wrap64 (t493 + t494)) + t495)) > 0 then ((bulletinref12_Quote.f k ((rd_T97 x491001 x4).f1)).bind fun t496 => (if x3.size + 2 ≤ 9223372036854775807 then (if (x3 ++ (⟨#[59, 32]⟩ : ByteArray)).size + ((rd_T97 x491001 x4).f0).size ≤ 9223372036854775807 then (if ((x3 ++ (⟨#[59, 32]⟩ : ByteArray)) ++ ((rd_T97 x491001 x4).f0)).size + 1 ≤ 9223372036854775807 then (if (((x3 ++ (⟨#[59, 32]⟩ : ByteArray)) ++ ((rd_T97 x491001 x4).f0)) ++ (⟨#[61]⟩ : ByteArray)).size + t496.size ≤ 9223372036854775807 then (bulletinref20_Text.l0 k ((((x3 ++ (⟨#[59, 32]⟩ : ByteArray)) ++ ((rd_T97 x491001 x4).f0)) ++ (⟨#[61]⟩ : ByteArray)) ++ t496) (wrap64 (x4 + 1)) x491000 x491001) else (none)) else (none)) else (none)) else (none))) else (if x3.size + 2 ≤ 9223372036854775807 then (if (x3 ++ (⟨#[59, 32]⟩ : ByteArray)).size + ((rd_T97 x491001 x4).f0).size ≤ 9223372036854775807 then (if ((x3 ++ (⟨#[59, 32]⟩ : ByteArray)) ++ ((rd_T97 x491001 x4).f0)).size + 1 ≤ 9223372036854775807 then (if (((x3 ++ (⟨#[59, 32]⟩ : ByteArray)) ++ ((rd_T97 x491001 x4).f0)) ++ (⟨#[61]⟩ : ByteArray)).size + ((rd_T97 x491001 x4).f1).size ≤ 9223372036854775807 then (bulletinref20_Text.l0 k ((((x3 ++ (⟨#[59, 32]⟩ : ByteArray)) ++ ((rd_T97 x491001 x4).f0)) ++ (⟨#[61]⟩ : ByteArray)) ++ ((rd_T97 x491001 x4).f1)) (wrap64 (x4 + 1)) x491000 x491001) else (none)) else (none)) else (none)) else (none)))))) else ((bulletinref12_Quote.f k ((rd_T97 x491001 x4).f1)).bind fun t499 => (if x3.size + 2 ≤ 9223372036854775807 then (if (x3 ++ (⟨#[59, 32]⟩ : ByteArray)).size + ((rd_T97 x491001 x4).f0).size ≤ 9223372036854775807 then (if ((x3 ++ (⟨#[59, 32]⟩ : ByteArray)) ++ ((rd_T97 x491001 x4).f0)).size + 1 ≤ 9223372036854775807 then (if (((x3 ++ (⟨#[59, 32]⟩ : ByteArray)) ++ ((rd_T97 x491001 x4).f0)) ++ (⟨#[61]⟩ : ByteArray)).size + t499.size ≤ 9223372036854775807 then (bulletinref20_Text.l0 k ((((x3 ++ (⟨#[59, 32]⟩ : ByteArray)) ++ ((rd_T97 x491001 x4).f0)) ++ (⟨#[61]⟩ : ByteArray)) ++ t499) (wrap64 (x4 + 1)) x491000 x491001) else (none)) else (none)) else (none)) else (none))))) else (none)) else (some x3)
def bulletinref20_Text.f (k : Nat) (a0_0 : ByteArray) (l0_1 : List (S97)) : Option (ByteArray) := bulletinref20_Text.l0 k a0_0 0 a0_0 l0_1
set_option maxHeartbeats 8000000 in
set_option maxRecDepth 100000 in
theorem bulletinref20_Text.calls (k : Nat) (a0_0 : ByteArray) (A0_1 : Option Addr) (c0_1 : Nat) (l0_1 : List (S97)) (r : ByteArray) (w : World) (hr0_1 : Kd.C k97 w A0_1 l0_1.length l0_1) (hc0_1 : l0_1.length ≤ c0_1) (h : bulletinref20_Text.f k a0_0 l0_1 = some r) :
  Calls Tryd.prog 34 #[.agg #[.string a0_0, .slice A0_1 l0_1.length c0_1]] w fun e w' => e = .returned (.string r) ∧ Below w.heap.size w w' := by
 have hu47 := Tryd.underlying47; have HR0_1 := Aside0.mk hr0_1; have HC0_1 := Aside0.mk hc0_1; clear hr0_1 hc0_1; have HB := Aside0.mk (Below.refl w.heap.size w); have H : (bulletinref20_Text.l0 k a0_0 0 a0_0 l0_1) = some r := h; clear h; have H' := Aside0.mk H; clear H
 go_enter Tryd.func34, Tryd.ntmps34
 go_wp2_with (first | ((with_reducible refine gate_dst (N := 1) rfl ?_); refine box_event ?hg (N := 1) ?hd (cs := #[.string a0_0, .slice A0_1 l0_1.length c0_1]) (t := 47) ?hr ?_; (case hd => rfl); (case hg => rfl); (case hr => first | (go_simp; done) | (go_simp; rfl)); intro gb490 hg w2 hbox hb; have n0_ := Aside0.mk (below_step bw hb); have n1_ := Aside0.mk (hbox); have n2_ := Aside0.mk ((by rw [hg]; exact (below_size bw) : w.heap.size ≤ gb490)); have n3_ := Aside0.mk ((by rw [hg]; exact (below_size bw) : w.heap.size ≤ gb490)); clear HB; have HB := n0_; have BK490 := n1_; have GW490 := n2_; have GE490 := n3_; clear n0_ n1_ n2_ n3_; clear hb hbox hg; have hcz3_0 : w2.cell? ⟨gb490, 0, none⟩ = some (.string a0_0) := (blk_cell BK490.out 0).trans rfl; have hcz3_1 : w2.cell? ⟨gb490, 1, none⟩ = some (.slice A0_1 l0_1.length c0_1) := (blk_cell BK490.out 1).trans rfl; have hfz3_0 := blk_frozen BK490.out 0; have hfz3_1 := blk_frozen BK490.out 1))
 go_loopg [3, 4] k (fun kq v3 v4 w' => ∃ (x3_1 : ByteArray) (x4_1 : Int), v3 = .string x3_1 ∧ v4 = .int .i64 x4_1 ∧ Aside0 (bulletinref20_Text.l0 kq x3_1 x4_1 a0_0 l0_1 = some r) ∧ Aside0 (kq ≤ k) ∧ Aside0 (w'.heap[gb490]? = some (.cells #[.string a0_0, (.slice A0_1 l0_1.length c0_1)] 47 (0, 0))) ∧ Aside0 (Below w.heap.size w w'))
 case atStart => exact ⟨(a0_0), (0), cl, cl, H', ⟨Nat.le_refl _⟩, ⟨bk⟩, ⟨bwS⟩⟩
 case round =>
  clear H'
  try clear p2
  try clear c3
  try clear hcz3_0
  try clear hcz3_1
  try clear hfz3_0
  try clear hfz3_1
  obtain ⟨x3_1, x4_1, rfl, rfl, HA, HK1, BK490, HB⟩ := hrel; cases gk with
  | zero => exact absurd HA.out (by simp [bulletinref20_Text.l0])
  | succ k1 =>
   have H := HA.out; clear HA; simp only [bulletinref20_Text.l0] at H
   by_cases c4 : x4_1 < (l0_1.length : Int)
   ·rw [if_pos c4] at H; have c4b0 : decide (x4_1 < (l0_1.length : Int)) = true := decide_eq_true c4; clear c4
    by_cases c5 : 0 ≤ x4_1
    ·rw [if_pos c5] at H; have c5b0 : decide (0 ≤ x4_1) = true := decide_eq_true c5; clear c5; replace H := Option.bind_eq_some_iff.mp H; obtain ⟨t492, A60, H⟩ := H; replace H : (if t492 = true then ((bulletinref20_has.f k1 ((rd_T97 l0_1 x4_1).f1) 61).bind fun t493 => ((bulletinref20_has.f k1 ((rd_T97 l0_1 x4_1).f1) 47).bind fun t494 => ((bulletinref20_has.f k1 ((rd_T97 l0_1 x4_1).f1) 63).bind fun t495 => (if (wrap64 ((wrap64 (t493 + t494)) + t495)) > 0 then ((bulletinref12_Quote.f k1 ((rd_T97 l0_1 x4_1).f1)).bind fun t496 => (if x3_1.size + 2 ≤ 9223372036854775807 then (if (x3_1 ++ (⟨#[59, 32]⟩ : ByteArray)).size + ((rd_T97 l0_1 x4_1).f0).size ≤ 9223372036854775807 then (if ((x3_1 ++ (⟨#[59, 32]⟩ : ByteArray)) ++ ((rd_T97 l0_1 x4_1).f0)).size + 1 ≤ 9223372036854775807 then (if (((x3_1 ++ (⟨#[59, 32]⟩ : ByteArray)) ++ ((rd_T97 l0_1 x4_1).f0)) ++ (⟨#[61]⟩ : ByteArray)).size + t496.size ≤ 9223372036854775807 then (bulletinref20_Text.l0 k1 ((((x3_1 ++ (⟨#[59, 32]⟩ : ByteArray)) ++ ((rd_T97 l0_1 x4_1).f0)) ++ (⟨#[61]⟩ : ByteArray)) ++ t496) (wrap64 (x4_1 + 1)) a0_0 l0_1) else (none)) else (none)) else (none)) else (none))) else (if x3_1.size + 2 ≤ 9223372036854775807 then (if (x3_1 ++ (⟨#[59, 32]⟩ : ByteArray)).size + ((rd_T97 l0_1 x4_1).f0).size ≤ 9223372036854775807 then (if ((x3_1 ++ (⟨#[59, 32]⟩ : ByteArray)) ++ ((rd_T97 l0_1 x4_1).f0)).size + 1 ≤ 9223372036854775807 then (if (((x3_1 ++ (⟨#[59, 32]⟩ : ByteArray)) ++ ((rd_T97 l0_1 x4_1).f0)) ++ (⟨#[61]⟩ : ByteArray)).size + ((rd_T97 l0_1 x4_1).f1).size ≤ 9223372036854775807 then (bulletinref20_Text.l0 k1 ((((x3_1 ++ (⟨#[59, 32]⟩ : ByteArray)) ++ ((rd_T97 l0_1 x4_1).f0)) ++ (⟨#[61]⟩ : ByteArray)) ++ ((rd_T97 l0_1 x4_1).f1)) (wrap64 (x4_1 + 1)) a0_0 l0_1) else (none)) else (none)) else (none)) else (none)))))) else ((bulletinref12_Quote.f k1 ((rd_T97 l0_1 x4_1).f1)).bind fun t499 => (if x3_1.size + 2 ≤ 9223372036854775807 then (if (x3_1 ++ (⟨#[59, 32]⟩ : ByteArray)).size + ((rd_T97 l0_1 x4_1).f0).size ≤ 9223372036854775807 then (if ((x3_1 ++ (⟨#[59, 32]⟩ : ByteArray)) ++ ((rd_T97 l0_1 x4_1).f0)).size + 1 ≤ 9223372036854775807 then (if (((x3_1 ++ (⟨#[59, 32]⟩ : ByteArray)) ++ ((rd_T97 l0_1 x4_1).f0)) ++ (⟨#[61]⟩ : ByteArray)).size + t499.size ≤ 9223372036854775807 then (bulletinref20_Text.l0 k1 ((((x3_1 ++ (⟨#[59, 32]⟩ : ByteArray)) ++ ((rd_T97 l0_1 x4_1).f0)) ++ (⟨#[61]⟩ : ByteArray)) ++ t499) (wrap64 (x4_1 + 1)) a0_0 l0_1) else (none)) else (none)) else (none)) else (none)))) = some r := H; have A6 := Aside0.mk A60; clear A60
     by_cases c7 : t492 = true
     ·subst c7; have H1 : ((bulletinref20_has.f k1 ((rd_T97 l0_1 x4_1).f1) 61).bind fun t493 => ((bulletinref20_has.f k1 ((rd_T97 l0_1 x4_1).f1) 47).bind fun t494 => ((bulletinref20_has.f k1 ((rd_T97 l0_1 x4_1).f1) 63).bind fun t495 => (if (wrap64 ((wrap64 (t493 + t494)) + t495)) > 0 then ((bulletinref12_Quote.f k1 ((rd_T97 l0_1 x4_1).f1)).bind fun t496 => (if x3_1.size + 2 ≤ 9223372036854775807 then (if (x3_1 ++ (⟨#[59, 32]⟩ : ByteArray)).size + ((rd_T97 l0_1 x4_1).f0).size ≤ 9223372036854775807 then (if ((x3_1 ++ (⟨#[59, 32]⟩ : ByteArray)) ++ ((rd_T97 l0_1 x4_1).f0)).size + 1 ≤ 9223372036854775807 then (if (((x3_1 ++ (⟨#[59, 32]⟩ : ByteArray)) ++ ((rd_T97 l0_1 x4_1).f0)) ++ (⟨#[61]⟩ : ByteArray)).size + t496.size ≤ 9223372036854775807 then (bulletinref20_Text.l0 k1 ((((x3_1 ++ (⟨#[59, 32]⟩ : ByteArray)) ++ ((rd_T97 l0_1 x4_1).f0)) ++ (⟨#[61]⟩ : ByteArray)) ++ t496) (wrap64 (x4_1 + 1)) a0_0 l0_1) else (none)) else (none)) else (none)) else (none))) else (if x3_1.size + 2 ≤ 9223372036854775807 then (if (x3_1 ++ (⟨#[59, 32]⟩ : ByteArray)).size + ((rd_T97 l0_1 x4_1).f0).size ≤ 9223372036854775807 then (if ((x3_1 ++ (⟨#[59, 32]⟩ : ByteArray)) ++ ((rd_T97 l0_1 x4_1).f0)).size + 1 ≤ 9223372036854775807 then (if (((x3_1 ++ (⟨#[59, 32]⟩ : ByteArray)) ++ ((rd_T97 l0_1 x4_1).f0)) ++ (⟨#[61]⟩ : ByteArray)).size + ((rd_T97 l0_1 x4_1).f1).size ≤ 9223372036854775807 then (bulletinref20_Text.l0 k1 ((((x3_1 ++ (⟨#[59, 32]⟩ : ByteArray)) ++ ((rd_T97 l0_1 x4_1).f0)) ++ (⟨#[61]⟩ : ByteArray)) ++ ((rd_T97 l0_1 x4_1).f1)) (wrap64 (x4_1 + 1)) a0_0 l0_1) else (none)) else (none)) else (none)) else (none)))))) = some r := by rw [if_pos rfl] at H; exact H
      clear H; have H := H1; clear H1; replace H := Option.bind_eq_some_iff.mp H; obtain ⟨t493, A80, H⟩ := H; replace H : ((bulletinref20_has.f k1 ((rd_T97 l0_1 x4_1).f1) 47).bind fun t494 => ((bulletinref20_has.f k1 ((rd_T97 l0_1 x4_1).f1) 63).bind fun t495 => (if (wrap64 ((wrap64 (t493 + t494)) + t495)) > 0 then ((bulletinref12_Quote.f k1 ((rd_T97 l0_1 x4_1).f1)).bind fun t496 => (if x3_1.size + 2 ≤ 9223372036854775807 then (if (x3_1 ++ (⟨#[59, 32]⟩ : ByteArray)).size + ((rd_T97 l0_1 x4_1).f0).size ≤ 9223372036854775807 then (if ((x3_1 ++ (⟨#[59, 32]⟩ : ByteArray)) ++ ((rd_T97 l0_1 x4_1).f0)).size + 1 ≤ 9223372036854775807 then (if (((x3_1 ++ (⟨#[59, 32]⟩ : ByteArray)) ++ ((rd_T97 l0_1 x4_1).f0)) ++ (⟨#[61]⟩ : ByteArray)).size + t496.size ≤ 9223372036854775807 then (bulletinref20_Text.l0 k1 ((((x3_1 ++ (⟨#[59, 32]⟩ : ByteArray)) ++ ((rd_T97 l0_1 x4_1).f0)) ++ (⟨#[61]⟩ : ByteArray)) ++ t496) (wrap64 (x4_1 + 1)) a0_0 l0_1) else (none)) else (none)) else (none)) else (none))) else (if x3_1.size + 2 ≤ 9223372036854775807 then (if (x3_1 ++ (⟨#[59, 32]⟩ : ByteArray)).size + ((rd_T97 l0_1 x4_1).f0).size ≤ 9223372036854775807 then (if ((x3_1 ++ (⟨#[59, 32]⟩ : ByteArray)) ++ ((rd_T97 l0_1 x4_1).f0)).size + 1 ≤ 9223372036854775807 then (if (((x3_1 ++ (⟨#[59, 32]⟩ : ByteArray)) ++ ((rd_T97 l0_1 x4_1).f0)) ++ (⟨#[61]⟩ : ByteArray)).size + ((rd_T97 l0_1 x4_1).f1).size ≤ 9223372036854775807 then (bulletinref20_Text.l0 k1 ((((x3_1 ++ (⟨#[59, 32]⟩ : ByteArray)) ++ ((rd_T97 l0_1 x4_1).f0)) ++ (⟨#[61]⟩ : ByteArray)) ++ ((rd_T97 l0_1 x4_1).f1)) (wrap64 (x4_1 + 1)) a0_0 l0_1) else (none)) else (none)) else (none)) else (none))))) = some r := H; have A8 := Aside0.mk A80; clear A80; replace H := Option.bind_eq_some_iff.mp H; obtain ⟨t494, A90, H⟩ := H; replace H : ((bulletinref20_has.f k1 ((rd_T97 l0_1 x4_1).f1) 63).bind fun t495 => (if (wrap64 ((wrap64 (t493 + t494)) + t495)) > 0 then ((bulletinref12_Quote.f k1 ((rd_T97 l0_1 x4_1).f1)).bind fun t496 => (if x3_1.size + 2 ≤ 9223372036854775807 then (if (x3_1 ++ (⟨#[59, 32]⟩ : ByteArray)).size + ((rd_T97 l0_1 x4_1).f0).size ≤ 9223372036854775807 then (if ((x3_1 ++ (⟨#[59, 32]⟩ : ByteArray)) ++ ((rd_T97 l0_1 x4_1).f0)).size + 1 ≤ 9223372036854775807 then (if (((x3_1 ++ (⟨#[59, 32]⟩ : ByteArray)) ++ ((rd_T97 l0_1 x4_1).f0)) ++ (⟨#[61]⟩ : ByteArray)).size + t496.size ≤ 9223372036854775807 then (bulletinref20_Text.l0 k1 ((((x3_1 ++ (⟨#[59, 32]⟩ : ByteArray)) ++ ((rd_T97 l0_1 x4_1).f0)) ++ (⟨#[61]⟩ : ByteArray)) ++ t496) (wrap64 (x4_1 + 1)) a0_0 l0_1) else (none)) else (none)) else (none)) else (none))) else (if x3_1.size + 2 ≤ 9223372036854775807 then (if (x3_1 ++ (⟨#[59, 32]⟩ : ByteArray)).size + ((rd_T97 l0_1 x4_1).f0).size ≤ 9223372036854775807 then (if ((x3_1 ++ (⟨#[59, 32]⟩ : ByteArray)) ++ ((rd_T97 l0_1 x4_1).f0)).size + 1 ≤ 9223372036854775807 then (if (((x3_1 ++ (⟨#[59, 32]⟩ : ByteArray)) ++ ((rd_T97 l0_1 x4_1).f0)) ++ (⟨#[61]⟩ : ByteArray)).size + ((rd_T97 l0_1 x4_1).f1).size ≤ 9223372036854775807 then (bulletinref20_Text.l0 k1 ((((x3_1 ++ (⟨#[59, 32]⟩ : ByteArray)) ++ ((rd_T97 l0_1 x4_1).f0)) ++ (⟨#[61]⟩ : ByteArray)) ++ ((rd_T97 l0_1 x4_1).f1)) (wrap64 (x4_1 + 1)) a0_0 l0_1) else (none)) else (none)) else (none)) else (none)))) = some r := H; have A9 := Aside0.mk A90; clear A90; replace H := Option.bind_eq_some_iff.mp H; obtain ⟨t495, A100, H⟩ := H; replace H : (if (wrap64 ((wrap64 (t493 + t494)) + t495)) > 0 then ((bulletinref12_Quote.f k1 ((rd_T97 l0_1 x4_1).f1)).bind fun t496 => (if x3_1.size + 2 ≤ 9223372036854775807 then (if (x3_1 ++ (⟨#[59, 32]⟩ : ByteArray)).size + ((rd_T97 l0_1 x4_1).f0).size ≤ 9223372036854775807 then (if ((x3_1 ++ (⟨#[59, 32]⟩ : ByteArray)) ++ ((rd_T97 l0_1 x4_1).f0)).size + 1 ≤ 9223372036854775807 then (if (((x3_1 ++ (⟨#[59, 32]⟩ : ByteArray)) ++ ((rd_T97 l0_1 x4_1).f0)) ++ (⟨#[61]⟩ : ByteArray)).size + t496.size ≤ 9223372036854775807 then (bulletinref20_Text.l0 k1 ((((x3_1 ++ (⟨#[59, 32]⟩ : ByteArray)) ++ ((rd_T97 l0_1 x4_1).f0)) ++ (⟨#[61]⟩ : ByteArray)) ++ t496) (wrap64 (x4_1 + 1)) a0_0 l0_1) else (none)) else (none)) else (none)) else (none))) else (if x3_1.size + 2 ≤ 9223372036854775807 then (if (x3_1 ++ (⟨#[59, 32]⟩ : ByteArray)).size + ((rd_T97 l0_1 x4_1).f0).size ≤ 9223372036854775807 then (if ((x3_1 ++ (⟨#[59, 32]⟩ : ByteArray)) ++ ((rd_T97 l0_1 x4_1).f0)).size + 1 ≤ 9223372036854775807 then (if (((x3_1 ++ (⟨#[59, 32]⟩ : ByteArray)) ++ ((rd_T97 l0_1 x4_1).f0)) ++ (⟨#[61]⟩ : ByteArray)).size + ((rd_T97 l0_1 x4_1).f1).size ≤ 9223372036854775807 then (bulletinref20_Text.l0 k1 ((((x3_1 ++ (⟨#[59, 32]⟩ : ByteArray)) ++ ((rd_T97 l0_1 x4_1).f0)) ++ (⟨#[61]⟩ : ByteArray)) ++ ((rd_T97 l0_1 x4_1).f1)) (wrap64 (x4_1 + 1)) a0_0 l0_1) else (none)) else (none)) else (none)) else (none))) = some r := H; have A10 := Aside0.mk A100; clear A100
      by_cases c11 : (wrap64 ((wrap64 (t493 + t494)) + t495)) > 0
      ·rw [if_pos c11] at H; have c11b0 : decide (0 < (wrap64 ((wrap64 (t493 + t494)) + t495))) = true := decide_eq_true c11; clear c11; replace H := Option.bind_eq_some_iff.mp H; obtain ⟨t496, A120, H⟩ := H; replace H : (if x3_1.size + 2 ≤ 9223372036854775807 then (if (x3_1 ++ (⟨#[59, 32]⟩ : ByteArray)).size + ((rd_T97 l0_1 x4_1).f0).size ≤ 9223372036854775807 then (if ((x3_1 ++ (⟨#[59, 32]⟩ : ByteArray)) ++ ((rd_T97 l0_1 x4_1).f0)).size + 1 ≤ 9223372036854775807 then (if (((x3_1 ++ (⟨#[59, 32]⟩ : ByteArray)) ++ ((rd_T97 l0_1 x4_1).f0)) ++ (⟨#[61]⟩ : ByteArray)).size + t496.size ≤ 9223372036854775807 then (bulletinref20_Text.l0 k1 ((((x3_1 ++ (⟨#[59, 32]⟩ : ByteArray)) ++ ((rd_T97 l0_1 x4_1).f0)) ++ (⟨#[61]⟩ : ByteArray)) ++ t496) (wrap64 (x4_1 + 1)) a0_0 l0_1) else (none)) else (none)) else (none)) else (none)) = some r := H; have A12 := Aside0.mk A120; clear A120
       by_cases c13 : x3_1.size + 2 ≤ 9223372036854775807
       ·rw [if_pos c13] at H; have c13b0 := eq_true c13; have c13b1 : decide (x3_1.size + 2 ≤ 9223372036854775807) = true := decide_eq_true c13
        try have c13b2 : (9223372036854775807 < x3_1.size + 2) = False := eq_false (Nat.not_lt.2 c13)
        by_cases c14 : (x3_1 ++ (⟨#[59, 32]⟩ : ByteArray)).size + ((rd_T97 l0_1 x4_1).f0).size ≤ 9223372036854775807
        ·rw [if_pos c14] at H; have c14b0 := eq_true c14; have c14b1 : decide ((x3_1 ++ (⟨#[59, 32]⟩ : ByteArray)).size + ((rd_T97 l0_1 x4_1).f0).size ≤ 9223372036854775807) = true := decide_eq_true c14
         try have c14b2 : (9223372036854775807 < (x3_1 ++ (⟨#[59, 32]⟩ : ByteArray)).size + ((rd_T97 l0_1 x4_1).f0).size) = False := eq_false (Nat.not_lt.2 c14)
         try (have c14b3 := c14; simp only [ByteArray.size_append, size_lit, ByteArray.size_extract, List.size_toArray, List.length_cons, List.length_nil, Nat.zero_add, Nat.reduceAdd] at c14b3; have c14b4 := eq_false (Nat.not_lt.2 c14b3))
         by_cases c15 : ((x3_1 ++ (⟨#[59, 32]⟩ : ByteArray)) ++ ((rd_T97 l0_1 x4_1).f0)).size + 1 ≤ 9223372036854775807
         ·rw [if_pos c15] at H; have c15b0 := eq_true c15; have c15b1 : decide (((x3_1 ++ (⟨#[59, 32]⟩ : ByteArray)) ++ ((rd_T97 l0_1 x4_1).f0)).size + 1 ≤ 9223372036854775807) = true := decide_eq_true c15
          try have c15b2 : (9223372036854775807 < ((x3_1 ++ (⟨#[59, 32]⟩ : ByteArray)) ++ ((rd_T97 l0_1 x4_1).f0)).size + 1) = False := eq_false (Nat.not_lt.2 c15)
          try (have c15b3 := c15; simp only [ByteArray.size_append, size_lit, ByteArray.size_extract, List.size_toArray, List.length_cons, List.length_nil, Nat.zero_add, Nat.reduceAdd] at c15b3; have c15b4 := eq_false (Nat.not_lt.2 c15b3))
          by_cases c16 : (((x3_1 ++ (⟨#[59, 32]⟩ : ByteArray)) ++ ((rd_T97 l0_1 x4_1).f0)) ++ (⟨#[61]⟩ : ByteArray)).size + t496.size ≤ 9223372036854775807
          ·rw [if_pos c16] at H; have c16b0 := eq_true c16; have c16b1 : decide ((((x3_1 ++ (⟨#[59, 32]⟩ : ByteArray)) ++ ((rd_T97 l0_1 x4_1).f0)) ++ (⟨#[61]⟩ : ByteArray)).size + t496.size ≤ 9223372036854775807) = true := decide_eq_true c16
           try have c16b2 : (9223372036854775807 < (((x3_1 ++ (⟨#[59, 32]⟩ : ByteArray)) ++ ((rd_T97 l0_1 x4_1).f0)) ++ (⟨#[61]⟩ : ByteArray)).size + t496.size) = False := eq_false (Nat.not_lt.2 c16)
           try (have c16b3 := c16; simp only [ByteArray.size_append, size_lit, ByteArray.size_extract, List.size_toArray, List.length_cons, List.length_nil, Nat.zero_add, Nat.reduceAdd] at c16b3; have c16b4 := eq_false (Nat.not_lt.2 c16b3))
           have H' := Aside0.mk H; clear H; have hcz17_0 : wr.cell? ⟨gb490, 0, none⟩ = some (.string a0_0) := (blk_cell BK490.out 0).trans rfl; have hcz17_1 : wr.cell? ⟨gb490, 1, none⟩ = some (.slice A0_1 l0_1.length c0_1) := (blk_cell BK490.out 1).trans rfl; have hfz17_0 := blk_frozen BK490.out 0; have hfz17_1 := blk_frozen BK490.out 1; have p491 : 0 ≤ (x4_1 : Int) := od; have q491 : x4_1 < (l0_1.length : Int) := od; obtain ⟨ad491, e491, hx491_0, hx491_1⟩ := at_T97 HR0_1.out x4_1 p491 q491; cases e491; replace hx491_0 := (HB.out.cell (World.block_lt_of_cell? w _ hx491_0)).trans hx491_0; replace hx491_1 := (HB.out.cell (World.block_lt_of_cell? w _ hx491_1)).trans hx491_1; replace p491 := eq_true p491; replace q491 := eq_true q491
           go_wp2_with (first | ((with_reducible refine gate_callee (f := 68) rfl ?_); refine goesL_ (some 22) rfl rfl Tryd.func68 (by kernel_rfl) rfl #[.string ((rd_T97 l0_1 x4_1).f1)] rfl am ?_; (with_reducible refine (bulletinref12_IsAtom.calls k1 ((rd_T97 l0_1 x4_1).f1) true _ A6.out).mono ?_); rintro e w' ⟨rfl, ⟨nd, rfl⟩⟩; refine ⟨_, rfl, ?_⟩) | (go_at_call 69; (with_reducible refine (bulletinref20_has.calls k1 ((rd_T97 l0_1 x4_1).f1) 61 t493 _ A8.out).mono ?_); rintro e w18 ⟨rfl, hb⟩; have n0_ := Aside0.mk (blk_below (g := gb490) (o := .cells #[.string a0_0, .slice (some ad491) l0_1.length c0_1] 47 (0, 0)) bk hb); have n1_ := Aside0.mk (below_step bwS hb); clear BK490; clear HB; have BK490 := n0_; have HB := n1_; clear n0_ n1_; (try clear hb); (try clear hb2); (try clear hk); (try clear hi)) | (go_at_call 69; (with_reducible refine (bulletinref20_has.calls k1 ((rd_T97 l0_1 x4_1).f1) 47 t494 _ A9.out).mono ?_); rintro e w19 ⟨rfl, hb⟩; have n0_ := Aside0.mk (blk_below (g := gb490) (o := .cells #[.string a0_0, .slice (some ad491) l0_1.length c0_1] 47 (0, 0)) bk hb); have n1_ := Aside0.mk (below_step bwS hb); clear BK490; clear HB; have BK490 := n0_; have HB := n1_; clear n0_ n1_; (try clear hb); (try clear hb2); (try clear hk); (try clear hi)) | (go_at_call 69; (with_reducible refine (bulletinref20_has.calls k1 ((rd_T97 l0_1 x4_1).f1) 63 t495 _ A10.out).mono ?_); rintro e w20 ⟨rfl, hb⟩; have n0_ := Aside0.mk (blk_below (g := gb490) (o := .cells #[.string a0_0, .slice (some ad491) l0_1.length c0_1] 47 (0, 0)) bk hb); have n1_ := Aside0.mk (below_step bwS hb); clear BK490; clear HB; have BK490 := n0_; have HB := n1_; clear n0_ n1_; (try clear hb); (try clear hb2); (try clear hk); (try clear hi)) | ((with_reducible refine gate_callee (f := 72) rfl ?_); refine goesL_ (some 36) rfl rfl Tryd.func72 (by kernel_rfl) rfl #[.string ((rd_T97 l0_1 x4_1).f1)] rfl am ?_; (with_reducible refine (bulletinref12_Quote.calls k1 ((rd_T97 l0_1 x4_1).f1) t496 _ A12.out).mono ?_); rintro e w' ⟨rfl, ⟨nd, rfl⟩⟩; refine ⟨_, rfl, ?_⟩; have hcz21_0 : w20.cell? ⟨gb490, 0, none⟩ = some (.string a0_0) := (blk_cell BK490.out 0).trans rfl; have hcz21_1 : w20.cell? ⟨gb490, 1, none⟩ = some (.slice (some ad491) l0_1.length c0_1) := (blk_cell BK490.out 1).trans rfl; have hfz21_0 := blk_frozen BK490.out 0; have hfz21_1 := blk_frozen BK490.out 1; have p497 : 0 ≤ (x4_1 : Int) := od; have q497 : x4_1 < (l0_1.length : Int) := od; obtain ⟨ad497, e497, hx497_0, hx497_1⟩ := at_T97 HR0_1.out x4_1 p497 q497; obtain rfl : ad491 = ad497 := (by injection e497); replace hx497_0 := (HB.out.cell (World.block_lt_of_cell? w _ hx497_0)).trans hx497_0; replace hx497_1 := (HB.out.cell (World.block_lt_of_cell? w _ hx497_1)).trans hx497_1; replace p497 := eq_true p497; replace q497 := eq_true q497))
           go_roundg k1
           case measure => have := HK1.out; omega
           case rel => exact ⟨((((x3_1 ++ (⟨#[59, 32]⟩ : ByteArray)) ++ ((rd_T97 l0_1 x4_1).f0)) ++ (⟨#[61]⟩ : ByteArray)) ++ t496), (wrap64 (x4_1 + 1)), cl, cl, H', ⟨by have := HK1.out; omega⟩, ⟨bk⟩, ⟨bwS⟩⟩
          ·rw [if_neg c16] at H; exact absurd H (by simp)
         ·rw [if_neg c15] at H; exact absurd H (by simp)
        ·rw [if_neg c14] at H; exact absurd H (by simp)
       ·rw [if_neg c13] at H; exact absurd H (by simp)
      ·rw [if_neg c11] at H; have c11b0 : decide (0 < (wrap64 ((wrap64 (t493 + t494)) + t495))) = false := decide_eq_false c11; clear c11
       by_cases c22 : x3_1.size + 2 ≤ 9223372036854775807
       ·rw [if_pos c22] at H; have c22b0 := eq_true c22; have c22b1 : decide (x3_1.size + 2 ≤ 9223372036854775807) = true := decide_eq_true c22
        try have c22b2 : (9223372036854775807 < x3_1.size + 2) = False := eq_false (Nat.not_lt.2 c22)
        by_cases c23 : (x3_1 ++ (⟨#[59, 32]⟩ : ByteArray)).size + ((rd_T97 l0_1 x4_1).f0).size ≤ 9223372036854775807
        ·rw [if_pos c23] at H; have c23b0 := eq_true c23; have c23b1 : decide ((x3_1 ++ (⟨#[59, 32]⟩ : ByteArray)).size + ((rd_T97 l0_1 x4_1).f0).size ≤ 9223372036854775807) = true := decide_eq_true c23
         try have c23b2 : (9223372036854775807 < (x3_1 ++ (⟨#[59, 32]⟩ : ByteArray)).size + ((rd_T97 l0_1 x4_1).f0).size) = False := eq_false (Nat.not_lt.2 c23)
         try (have c23b3 := c23; simp only [ByteArray.size_append, size_lit, ByteArray.size_extract, List.size_toArray, List.length_cons, List.length_nil, Nat.zero_add, Nat.reduceAdd] at c23b3; have c23b4 := eq_false (Nat.not_lt.2 c23b3))
         by_cases c24 : ((x3_1 ++ (⟨#[59, 32]⟩ : ByteArray)) ++ ((rd_T97 l0_1 x4_1).f0)).size + 1 ≤ 9223372036854775807
         ·rw [if_pos c24] at H; have c24b0 := eq_true c24; have c24b1 : decide (((x3_1 ++ (⟨#[59, 32]⟩ : ByteArray)) ++ ((rd_T97 l0_1 x4_1).f0)).size + 1 ≤ 9223372036854775807) = true := decide_eq_true c24
          try have c24b2 : (9223372036854775807 < ((x3_1 ++ (⟨#[59, 32]⟩ : ByteArray)) ++ ((rd_T97 l0_1 x4_1).f0)).size + 1) = False := eq_false (Nat.not_lt.2 c24)
          try (have c24b3 := c24; simp only [ByteArray.size_append, size_lit, ByteArray.size_extract, List.size_toArray, List.length_cons, List.length_nil, Nat.zero_add, Nat.reduceAdd] at c24b3; have c24b4 := eq_false (Nat.not_lt.2 c24b3))
          by_cases c25 : (((x3_1 ++ (⟨#[59, 32]⟩ : ByteArray)) ++ ((rd_T97 l0_1 x4_1).f0)) ++ (⟨#[61]⟩ : ByteArray)).size + ((rd_T97 l0_1 x4_1).f1).size ≤ 9223372036854775807
          ·rw [if_pos c25] at H; have c25b0 := eq_true c25; have c25b1 : decide ((((x3_1 ++ (⟨#[59, 32]⟩ : ByteArray)) ++ ((rd_T97 l0_1 x4_1).f0)) ++ (⟨#[61]⟩ : ByteArray)).size + ((rd_T97 l0_1 x4_1).f1).size ≤ 9223372036854775807) = true := decide_eq_true c25
           try have c25b2 : (9223372036854775807 < (((x3_1 ++ (⟨#[59, 32]⟩ : ByteArray)) ++ ((rd_T97 l0_1 x4_1).f0)) ++ (⟨#[61]⟩ : ByteArray)).size + ((rd_T97 l0_1 x4_1).f1).size) = False := eq_false (Nat.not_lt.2 c25)
           try (have c25b3 := c25; simp only [ByteArray.size_append, size_lit, ByteArray.size_extract, List.size_toArray, List.length_cons, List.length_nil, Nat.zero_add, Nat.reduceAdd] at c25b3; have c25b4 := eq_false (Nat.not_lt.2 c25b3))
           have H' := Aside0.mk H; clear H; have hcz26_0 : wr.cell? ⟨gb490, 0, none⟩ = some (.string a0_0) := (blk_cell BK490.out 0).trans rfl; have hcz26_1 : wr.cell? ⟨gb490, 1, none⟩ = some (.slice A0_1 l0_1.length c0_1) := (blk_cell BK490.out 1).trans rfl; have hfz26_0 := blk_frozen BK490.out 0; have hfz26_1 := blk_frozen BK490.out 1; have p491 : 0 ≤ (x4_1 : Int) := od; have q491 : x4_1 < (l0_1.length : Int) := od; obtain ⟨ad491, e491, hx491_0, hx491_1⟩ := at_T97 HR0_1.out x4_1 p491 q491; cases e491; replace hx491_0 := (HB.out.cell (World.block_lt_of_cell? w _ hx491_0)).trans hx491_0; replace hx491_1 := (HB.out.cell (World.block_lt_of_cell? w _ hx491_1)).trans hx491_1; replace p491 := eq_true p491; replace q491 := eq_true q491
           go_wp2_with (first | ((with_reducible refine gate_callee (f := 68) rfl ?_); refine goesL_ (some 22) rfl rfl Tryd.func68 (by kernel_rfl) rfl #[.string ((rd_T97 l0_1 x4_1).f1)] rfl am ?_; (with_reducible refine (bulletinref12_IsAtom.calls k1 ((rd_T97 l0_1 x4_1).f1) true _ A6.out).mono ?_); rintro e w' ⟨rfl, ⟨nd, rfl⟩⟩; refine ⟨_, rfl, ?_⟩) | (go_at_call 69; (with_reducible refine (bulletinref20_has.calls k1 ((rd_T97 l0_1 x4_1).f1) 61 t493 _ A8.out).mono ?_); rintro e w27 ⟨rfl, hb⟩; have n0_ := Aside0.mk (blk_below (g := gb490) (o := .cells #[.string a0_0, .slice (some ad491) l0_1.length c0_1] 47 (0, 0)) bk hb); have n1_ := Aside0.mk (below_step bwS hb); clear BK490; clear HB; have BK490 := n0_; have HB := n1_; clear n0_ n1_; (try clear hb); (try clear hb2); (try clear hk); (try clear hi)) | (go_at_call 69; (with_reducible refine (bulletinref20_has.calls k1 ((rd_T97 l0_1 x4_1).f1) 47 t494 _ A9.out).mono ?_); rintro e w28 ⟨rfl, hb⟩; have n0_ := Aside0.mk (blk_below (g := gb490) (o := .cells #[.string a0_0, .slice (some ad491) l0_1.length c0_1] 47 (0, 0)) bk hb); have n1_ := Aside0.mk (below_step bwS hb); clear BK490; clear HB; have BK490 := n0_; have HB := n1_; clear n0_ n1_; (try clear hb); (try clear hb2); (try clear hk); (try clear hi)) | (go_at_call 69; (with_reducible refine (bulletinref20_has.calls k1 ((rd_T97 l0_1 x4_1).f1) 63 t495 _ A10.out).mono ?_); rintro e w29 ⟨rfl, hb⟩; have n0_ := Aside0.mk (blk_below (g := gb490) (o := .cells #[.string a0_0, .slice (some ad491) l0_1.length c0_1] 47 (0, 0)) bk hb); have n1_ := Aside0.mk (below_step bwS hb); clear BK490; clear HB; have BK490 := n0_; have HB := n1_; clear n0_ n1_; (try clear hb); (try clear hb2); (try clear hk); (try clear hi); have hcz30_0 : w29.cell? ⟨gb490, 0, none⟩ = some (.string a0_0) := (blk_cell BK490.out 0).trans rfl; have hcz30_1 : w29.cell? ⟨gb490, 1, none⟩ = some (.slice (some ad491) l0_1.length c0_1) := (blk_cell BK490.out 1).trans rfl; have hfz30_0 := blk_frozen BK490.out 0; have hfz30_1 := blk_frozen BK490.out 1; have p498 : 0 ≤ (x4_1 : Int) := od; have q498 : x4_1 < (l0_1.length : Int) := od; obtain ⟨ad498, e498, hx498_0, hx498_1⟩ := at_T97 HR0_1.out x4_1 p498 q498; obtain rfl : ad491 = ad498 := (by injection e498); replace hx498_0 := (HB.out.cell (World.block_lt_of_cell? w _ hx498_0)).trans hx498_0; replace hx498_1 := (HB.out.cell (World.block_lt_of_cell? w _ hx498_1)).trans hx498_1; replace p498 := eq_true p498; replace q498 := eq_true q498))
           go_roundg k1
           case measure => have := HK1.out; omega
           case rel => exact ⟨((((x3_1 ++ (⟨#[59, 32]⟩ : ByteArray)) ++ ((rd_T97 l0_1 x4_1).f0)) ++ (⟨#[61]⟩ : ByteArray)) ++ ((rd_T97 l0_1 x4_1).f1)), (wrap64 (x4_1 + 1)), cl, cl, H', ⟨by have := HK1.out; omega⟩, ⟨bk⟩, ⟨bwS⟩⟩
          ·rw [if_neg c25] at H; exact absurd H (by simp)
         ·rw [if_neg c24] at H; exact absurd H (by simp)
        ·rw [if_neg c23] at H; exact absurd H (by simp)
       ·rw [if_neg c22] at H; exact absurd H (by simp)
     ·replace c7 := Bool.eq_false_iff.mpr c7; subst c7; have H1 : ((bulletinref12_Quote.f k1 ((rd_T97 l0_1 x4_1).f1)).bind fun t499 => (if x3_1.size + 2 ≤ 9223372036854775807 then (if (x3_1 ++ (⟨#[59, 32]⟩ : ByteArray)).size + ((rd_T97 l0_1 x4_1).f0).size ≤ 9223372036854775807 then (if ((x3_1 ++ (⟨#[59, 32]⟩ : ByteArray)) ++ ((rd_T97 l0_1 x4_1).f0)).size + 1 ≤ 9223372036854775807 then (if (((x3_1 ++ (⟨#[59, 32]⟩ : ByteArray)) ++ ((rd_T97 l0_1 x4_1).f0)) ++ (⟨#[61]⟩ : ByteArray)).size + t499.size ≤ 9223372036854775807 then (bulletinref20_Text.l0 k1 ((((x3_1 ++ (⟨#[59, 32]⟩ : ByteArray)) ++ ((rd_T97 l0_1 x4_1).f0)) ++ (⟨#[61]⟩ : ByteArray)) ++ t499) (wrap64 (x4_1 + 1)) a0_0 l0_1) else (none)) else (none)) else (none)) else (none))) = some r := by rw [if_neg (show ¬ (false = true) by decide)] at H; exact H
      clear H; have H := H1; clear H1; replace H := Option.bind_eq_some_iff.mp H; obtain ⟨t499, A310, H⟩ := H; replace H : (if x3_1.size + 2 ≤ 9223372036854775807 then (if (x3_1 ++ (⟨#[59, 32]⟩ : ByteArray)).size + ((rd_T97 l0_1 x4_1).f0).size ≤ 9223372036854775807 then (if ((x3_1 ++ (⟨#[59, 32]⟩ : ByteArray)) ++ ((rd_T97 l0_1 x4_1).f0)).size + 1 ≤ 9223372036854775807 then (if (((x3_1 ++ (⟨#[59, 32]⟩ : ByteArray)) ++ ((rd_T97 l0_1 x4_1).f0)) ++ (⟨#[61]⟩ : ByteArray)).size + t499.size ≤ 9223372036854775807 then (bulletinref20_Text.l0 k1 ((((x3_1 ++ (⟨#[59, 32]⟩ : ByteArray)) ++ ((rd_T97 l0_1 x4_1).f0)) ++ (⟨#[61]⟩ : ByteArray)) ++ t499) (wrap64 (x4_1 + 1)) a0_0 l0_1) else (none)) else (none)) else (none)) else (none)) = some r := H; have A31 := Aside0.mk A310; clear A310
      by_cases c32 : x3_1.size + 2 ≤ 9223372036854775807
      ·rw [if_pos c32] at H; have c32b0 := eq_true c32; have c32b1 : decide (x3_1.size + 2 ≤ 9223372036854775807) = true := decide_eq_true c32
       try have c32b2 : (9223372036854775807 < x3_1.size + 2) = False := eq_false (Nat.not_lt.2 c32)
       by_cases c33 : (x3_1 ++ (⟨#[59, 32]⟩ : ByteArray)).size + ((rd_T97 l0_1 x4_1).f0).size ≤ 9223372036854775807
       ·rw [if_pos c33] at H; have c33b0 := eq_true c33; have c33b1 : decide ((x3_1 ++ (⟨#[59, 32]⟩ : ByteArray)).size + ((rd_T97 l0_1 x4_1).f0).size ≤ 9223372036854775807) = true := decide_eq_true c33
        try have c33b2 : (9223372036854775807 < (x3_1 ++ (⟨#[59, 32]⟩ : ByteArray)).size + ((rd_T97 l0_1 x4_1).f0).size) = False := eq_false (Nat.not_lt.2 c33)
        try (have c33b3 := c33; simp only [ByteArray.size_append, size_lit, ByteArray.size_extract, List.size_toArray, List.length_cons, List.length_nil, Nat.zero_add, Nat.reduceAdd] at c33b3; have c33b4 := eq_false (Nat.not_lt.2 c33b3))
        by_cases c34 : ((x3_1 ++ (⟨#[59, 32]⟩ : ByteArray)) ++ ((rd_T97 l0_1 x4_1).f0)).size + 1 ≤ 9223372036854775807
        ·rw [if_pos c34] at H; have c34b0 := eq_true c34; have c34b1 : decide (((x3_1 ++ (⟨#[59, 32]⟩ : ByteArray)) ++ ((rd_T97 l0_1 x4_1).f0)).size + 1 ≤ 9223372036854775807) = true := decide_eq_true c34
         try have c34b2 : (9223372036854775807 < ((x3_1 ++ (⟨#[59, 32]⟩ : ByteArray)) ++ ((rd_T97 l0_1 x4_1).f0)).size + 1) = False := eq_false (Nat.not_lt.2 c34)
         try (have c34b3 := c34; simp only [ByteArray.size_append, size_lit, ByteArray.size_extract, List.size_toArray, List.length_cons, List.length_nil, Nat.zero_add, Nat.reduceAdd] at c34b3; have c34b4 := eq_false (Nat.not_lt.2 c34b3))
         by_cases c35 : (((x3_1 ++ (⟨#[59, 32]⟩ : ByteArray)) ++ ((rd_T97 l0_1 x4_1).f0)) ++ (⟨#[61]⟩ : ByteArray)).size + t499.size ≤ 9223372036854775807
         ·rw [if_pos c35] at H; have c35b0 := eq_true c35; have c35b1 : decide ((((x3_1 ++ (⟨#[59, 32]⟩ : ByteArray)) ++ ((rd_T97 l0_1 x4_1).f0)) ++ (⟨#[61]⟩ : ByteArray)).size + t499.size ≤ 9223372036854775807) = true := decide_eq_true c35
          try have c35b2 : (9223372036854775807 < (((x3_1 ++ (⟨#[59, 32]⟩ : ByteArray)) ++ ((rd_T97 l0_1 x4_1).f0)) ++ (⟨#[61]⟩ : ByteArray)).size + t499.size) = False := eq_false (Nat.not_lt.2 c35)
          try (have c35b3 := c35; simp only [ByteArray.size_append, size_lit, ByteArray.size_extract, List.size_toArray, List.length_cons, List.length_nil, Nat.zero_add, Nat.reduceAdd] at c35b3; have c35b4 := eq_false (Nat.not_lt.2 c35b3))
          have H' := Aside0.mk H; clear H; have hcz36_0 : wr.cell? ⟨gb490, 0, none⟩ = some (.string a0_0) := (blk_cell BK490.out 0).trans rfl; have hcz36_1 : wr.cell? ⟨gb490, 1, none⟩ = some (.slice A0_1 l0_1.length c0_1) := (blk_cell BK490.out 1).trans rfl; have hfz36_0 := blk_frozen BK490.out 0; have hfz36_1 := blk_frozen BK490.out 1; have p491 : 0 ≤ (x4_1 : Int) := od; have q491 : x4_1 < (l0_1.length : Int) := od; obtain ⟨ad491, e491, hx491_0, hx491_1⟩ := at_T97 HR0_1.out x4_1 p491 q491; cases e491; replace hx491_0 := (HB.out.cell (World.block_lt_of_cell? w _ hx491_0)).trans hx491_0; replace hx491_1 := (HB.out.cell (World.block_lt_of_cell? w _ hx491_1)).trans hx491_1; replace p491 := eq_true p491; replace q491 := eq_true q491
          go_wp2_with (first | ((with_reducible refine gate_callee (f := 68) rfl ?_); refine goesL_ (some 22) rfl rfl Tryd.func68 (by kernel_rfl) rfl #[.string ((rd_T97 l0_1 x4_1).f1)] rfl am ?_; (with_reducible refine (bulletinref12_IsAtom.calls k1 ((rd_T97 l0_1 x4_1).f1) false _ A6.out).mono ?_); rintro e w' ⟨rfl, ⟨nd, rfl⟩⟩; refine ⟨_, rfl, ?_⟩) | ((with_reducible refine gate_callee (f := 72) rfl ?_); refine goesL_ (some 36) rfl rfl Tryd.func72 (by kernel_rfl) rfl #[.string ((rd_T97 l0_1 x4_1).f1)] rfl am ?_; (with_reducible refine (bulletinref12_Quote.calls k1 ((rd_T97 l0_1 x4_1).f1) t499 _ A31.out).mono ?_); rintro e w' ⟨rfl, ⟨nd, rfl⟩⟩; refine ⟨_, rfl, ?_⟩; have p500 : 0 ≤ (x4_1 : Int) := od; have q500 : x4_1 < (l0_1.length : Int) := od; obtain ⟨ad500, e500, hx500_0, hx500_1⟩ := at_T97 HR0_1.out x4_1 p500 q500; obtain rfl : ad491 = ad500 := (by injection e500); replace hx500_0 := (HB.out.cell (World.block_lt_of_cell? w _ hx500_0)).trans hx500_0; replace hx500_1 := (HB.out.cell (World.block_lt_of_cell? w _ hx500_1)).trans hx500_1; replace p500 := eq_true p500; replace q500 := eq_true q500))
          go_roundg k1
          case measure => have := HK1.out; omega
          case rel => exact ⟨((((x3_1 ++ (⟨#[59, 32]⟩ : ByteArray)) ++ ((rd_T97 l0_1 x4_1).f0)) ++ (⟨#[61]⟩ : ByteArray)) ++ t499), (wrap64 (x4_1 + 1)), cl, cl, H', ⟨by have := HK1.out; omega⟩, ⟨bk⟩, ⟨bwS⟩⟩
         ·rw [if_neg c35] at H; exact absurd H (by simp)
        ·rw [if_neg c34] at H; exact absurd H (by simp)
       ·rw [if_neg c33] at H; exact absurd H (by simp)
      ·rw [if_neg c32] at H; exact absurd H (by simp)
    ·rw [if_neg c5] at H; exact absurd H (by simp)
   ·rw [if_neg c4] at H; have c4b0 : decide (x4_1 < (l0_1.length : Int)) = false := decide_eq_false c4; clear c4; obtain rfl := Option.some.inj H; have hcz37_0 : wr.cell? ⟨gb490, 0, none⟩ = some (.string a0_0) := (blk_cell BK490.out 0).trans rfl; have hcz37_1 : wr.cell? ⟨gb490, 1, none⟩ = some (.slice A0_1 l0_1.length c0_1) := (blk_cell BK490.out 1).trans rfl; have hfz37_0 := blk_frozen BK490.out 0; have hfz37_1 := blk_frozen BK490.out 1
    go_wp2
    go_ret
    exact ⟨ew, bwS⟩

end Go.Proofs.YtoikneogdbdplaaDoor.Fn
namespace Go.Proofs.YtoikneogdbdplaaDoor.Fn
open Go.RowKit Go.Proofs.YtoikneogdbdplaaDoorW.PrintWords Go.Proofs.YtoikneogdbdplaaDoorW.PrintLast Go.Proofs.YtoikneogdbdplaaDoorW.PrintMore
attribute [local go_sem] max2_int min2_int max_two min_two max_three min_three max_four min_four
set_option linter.unusedVariables false
set_option linter.unusedSimpArgs false

def bulletinref20_Value.l0 : Nat → ByteArray → Int → ByteArray → List (S97) → Option (ByteArray × Bool)
 | 0, _, _, _, _ => none
 | k + 1, x1, x6, x485000, x485001 => if x6 < (x485001.length : Int) then (if 0 ≤ x6 then ((bulletinref06_Fold.f k x1).bind fun t486 => (if ((rd_T97 x485001 x6).f0).toList = t486.toList then (some ((rd_T97 x485001 x6).f1, true)) else (bulletinref20_Value.l0 k x1 (wrap64 (x6 + 1)) x485000 x485001))) else (none)) else (some ((⟨#[]⟩ : ByteArray), false))
def bulletinref20_Value.f (k : Nat) (a0_0 : ByteArray) (l0_1 : List (S97)) (a1 : ByteArray) : Option (ByteArray × Bool) := bulletinref20_Value.l0 k a1 0 a0_0 l0_1
def bulletinref20_Value.T4 : Bool × List (List Nat × List Nat) := (true, [([], []), ([0], [0]), ([], []), ([1, 2], [1, 2]), ([3], [3]), ([4], [4]), ([], []), ([6], [6]), ([5, 7], [5, 7])])
def bulletinref20_Value.B4 : List Nat := [0, 1, 0, 7, 15, 31, 0, 64, 255]
theorem bulletinref20_Value.tab4 : rtab .any (opsOf Tryd.f32 4) = bulletinref20_Value.T4 := by kernel_rfl
theorem bulletinref20_Value.bits4 : waitsOk bulletinref20_Value.T4.2 bulletinref20_Value.B4 = true := by kernel_rfl
set_option maxHeartbeats 8000000 in
set_option maxRecDepth 100000 in
theorem bulletinref20_Value.calls (k : Nat) (a0_0 : ByteArray) (A0_1 : Option Addr) (c0_1 : Nat) (l0_1 : List (S97)) (a1 : ByteArray) (r1 : ByteArray) (r2 : Bool) (w : World) (hr0_1 : Kd.C k97 w A0_1 l0_1.length l0_1) (hc0_1 : l0_1.length ≤ c0_1) (h : bulletinref20_Value.f k a0_0 l0_1 a1 = some (r1, r2)) :
  Calls Tryd.prog 32 #[.agg #[.string a0_0, .slice A0_1 l0_1.length c0_1], .string a1] w fun e w' => e = .returned (.tuple #[.string r1, .bool r2]) ∧ Below w.heap.size w w' := by
 have hu47 := Tryd.underlying47; have HR0_1 := Aside0.mk hr0_1; have HC0_1 := Aside0.mk hc0_1; clear hr0_1 hc0_1; have HB := Aside0.mk (Below.refl w.heap.size w); have H : (bulletinref20_Value.l0 k a1 0 a0_0 l0_1) = some (r1, r2) := h; clear h; have H' := Aside0.mk H; clear H
 go_enter Tryd.func32, Tryd.ntmps32
 go_wp2_with (first | ((with_reducible refine gate_dst (N := 2) rfl ?_); refine box_event ?hg (N := 2) ?hd (cs := #[.string a0_0, .slice A0_1 l0_1.length c0_1]) (t := 47) ?hr ?_; (case hd => rfl); (case hg => rfl); (case hr => first | (go_simp; done) | (go_simp; rfl)); intro gb484 hg w3 hbox hb; have n0_ := Aside0.mk (below_step bw hb); have n1_ := Aside0.mk (hbox); have n2_ := Aside0.mk ((by rw [hg]; exact (below_size bw) : w.heap.size ≤ gb484)); have n3_ := Aside0.mk ((by rw [hg]; exact (below_size bw) : w.heap.size ≤ gb484)); clear HB; have HB := n0_; have BK484 := n1_; have GW484 := n2_; have GE484 := n3_; clear n0_ n1_ n2_ n3_; clear hb hbox hg))
 go_loopg [6] k (fun kq v6 w' => ∃ (x6_1 : Int), v6 = .int .i64 x6_1 ∧ Aside0 (bulletinref20_Value.l0 kq a1 x6_1 a0_0 l0_1 = some (r1, r2)) ∧ Aside0 (kq ≤ k) ∧ Aside0 (w'.heap[gb484]? = some (.cells #[.string a0_0, (.slice A0_1 l0_1.length c0_1)] 47 (0, 0))) ∧ Aside0 (Below w.heap.size w w'))
 case atStart => exact ⟨(0), cl, H', ⟨Nat.le_refl _⟩, ⟨bk⟩, ⟨bwS⟩⟩
 case round =>
  clear H'
  try clear p2
  try clear c3
  obtain ⟨x6_1, rfl, HA, HK1, BK484, HB⟩ := hrel; cases gk with
  | zero => exact absurd HA.out (by simp [bulletinref20_Value.l0])
  | succ k1 =>
   have H := HA.out; clear HA; simp only [bulletinref20_Value.l0] at H
   by_cases c4 : x6_1 < (l0_1.length : Int)
   ·rw [if_pos c4] at H; have c4b0 : decide (x6_1 < (l0_1.length : Int)) = true := decide_eq_true c4; clear c4
    by_cases c5 : 0 ≤ x6_1
    ·rw [if_pos c5] at H; have c5b0 : decide (0 ≤ x6_1) = true := decide_eq_true c5; clear c5; replace H := Option.bind_eq_some_iff.mp H; obtain ⟨t486, A60, H⟩ := H; replace H : (if ((rd_T97 l0_1 x6_1).f0).toList = t486.toList then (some ((rd_T97 l0_1 x6_1).f1, true)) else (bulletinref20_Value.l0 k1 a1 (wrap64 (x6_1 + 1)) a0_0 l0_1)) = some (r1, r2) := H; have A6 := Aside0.mk A60; clear A60
     by_cases c7 : ((rd_T97 l0_1 x6_1).f0).toList = t486.toList
     ·rw [if_pos c7] at H; have c7b0 : (((rd_T97 l0_1 x6_1).f0).toList == t486.toList) = true := beq_iff_eq.mpr c7; have c7b1 : (((rd_T97 l0_1 x6_1).f0).toList != t486.toList) = false := bne_eq_false_iff_eq.mpr c7; clear c7; simp only [Option.some.injEq, Prod.mk.injEq] at H; obtain ⟨rfl, rfl⟩ := H; have hcz8_0 : wr.cell? ⟨gb484, 0, none⟩ = some (.string a0_0) := (blk_cell BK484.out 0).trans rfl; have hcz8_1 : wr.cell? ⟨gb484, 1, none⟩ = some (.slice A0_1 l0_1.length c0_1) := (blk_cell BK484.out 1).trans rfl; have hfz8_0 := blk_frozen BK484.out 0; have hfz8_1 := blk_frozen BK484.out 1
      try go_wp2
      have n0_ := Aside0.mk (blk_drew BK484.out); have n1_ := Aside0.mk (below_drew1 HB.out); clear BK484 HB; have BK484 := n0_; have HB := n1_; clear n0_ n1_; have p485 : 0 ≤ (x6_1 : Int) := od; have q485 : x6_1 < (l0_1.length : Int) := od; obtain ⟨ad485, e485, hx485_0, hx485_1⟩ := at_T97 HR0_1.out x6_1 p485 q485; have hw485_1 := hx485_1; have hw485_0 := hx485_0; cases e485; replace hx485_0 := (HB.out.cell (World.block_lt_of_cell? w _ hx485_0)).trans hx485_0; replace hx485_1 := (HB.out.cell (World.block_lt_of_cell? w _ hx485_1)).trans hx485_1; replace p485 := eq_true p485; replace q485 := eq_true q485; refine start_ (n := 9) (S := fun w' => w'.cell? ⟨gb484, 0, none⟩ = some (.string a0_0) ∧ w'.cell? ⟨gb484, 1, none⟩ = some (.slice (some ad485) l0_1.length c0_1) ∧ w'.cell? (ad485.add ((x6_1).toNat * 2)) = some (.string ((rd_T97 l0_1 x6_1).f0)) ∧ w'.cell? ⟨(ad485.add ((x6_1).toNat * 2)).block, (ad485.add ((x6_1).toNat * 2)).off + 1, none⟩ = some (.string ((rd_T97 l0_1 x6_1).f1))) (ds := []) #[false, false, false, false, false, false, false, false, false] (by kernel_rfl) rfl rfl ⟨(blk_cell BK484.out 0).trans rfl, (blk_cell BK484.out 1).trans rfl, ((HB.out.cell (World.block_lt_of_cell? w _ hw485_0)).trans hw485_0), ((HB.out.cell (World.block_lt_of_cell? w _ hw485_1)).trans hw485_1)⟩ (fun hHeld => ?_); refine with_tabW bulletinref20_Value.tab4 bulletinref20_Value.bits4 (fun HT_ HW_ => ?_)
      generalize wr.drew = w9 at BK484 HB hx485_0 hx485_1 hHeld ⊢
      refine pure_ (i := 0) (N := some 14) (v := ?_) (a' := ?_) (bitsL 9 1) rfl rfl (any_of HT_.out (by kernel_rfl)) (fun _ _ _ h => h) (Or.inl ⟨by rfl, ?_⟩) ?_ ?_; rotate_left
      ·intro w'; go_simp; with_reducible rfl
      rotate_left
      ·simp only [Act.put, List.setIfInBounds_toArray, List.set_cons_zero, List.set_cons_succ, i64_w, i32_w]; rfl
      refine pure_ (i := 2) (N := some 16) (v := ?_) (a' := ?_) (bitsL 9 5) rfl rfl (any_of HT_.out (by kernel_rfl)) (fun _ _ _ h => h) (Or.inl ⟨by rfl, ?_⟩) ?_ ?_; rotate_left
      ·intro w'; go_simp; with_reducible rfl
      rotate_left
      ·simp only [Act.put, List.setIfInBounds_toArray, List.set_cons_zero, List.set_cons_succ, i64_w, i32_w]; rfl
      refine pure_ (i := 6) (N := some 20) (v := ?_) (a' := ?_) (bitsL 9 69) rfl rfl (any_of HT_.out (by kernel_rfl)) (fun _ _ _ h => h) (Or.inl ⟨by rfl, ?_⟩) ?_ ?_; rotate_left
      ·intro w'; go_simp; with_reducible rfl
      rotate_left
      ·simp only [Act.put, List.setIfInBounds_toArray, List.set_cons_zero, List.set_cons_succ, i64_w, i32_w]; rfl
      refine take_ (i := 1) (N := some 15) (v := ?_) (a' := ?_) (bitsL 9 71) rfl rfl (take_ofW HT_.out HW_.out (by kernel_rfl)) (fun _ _ _ h => h) (Or.inl ⟨by rfl, ?_⟩) hHeld ?_ ?_; rotate_left
      ·rintro w' ⟨s0, s1, s2, s3⟩; go_simp; with_reducible rfl
      rotate_left
      ·simp only [Act.put, List.setIfInBounds_toArray, List.set_cons_zero, List.set_cons_succ, i64_w, i32_w]; rfl
      refine pure_ (i := 3) (N := some 17) (v := ?_) (a' := ?_) (bitsL 9 79) rfl rfl (any_of HT_.out (by kernel_rfl)) (fun _ _ _ h => h) (Or.inl ⟨by rfl, ?_⟩) ?_ ?_; rotate_left
      ·intro w'; go_simp; with_reducible rfl
      rotate_left
      ·simp only [Act.put, List.setIfInBounds_toArray, List.set_cons_zero, List.set_cons_succ, i64_w, i32_w]; rfl
      refine pure_ (i := 4) (N := some 18) (v := ?_) (a' := ?_) (bitsL 9 95) rfl rfl (any_of HT_.out (by kernel_rfl)) (fun _ _ _ h => h) (Or.inl ⟨by rfl, ?_⟩) ?_ ?_; rotate_left
      ·intro w'; go_simp; with_reducible rfl
      rotate_left
      ·simp only [Act.put, List.setIfInBounds_toArray, List.set_cons_zero, List.set_cons_succ, i64_w, i32_w]; rfl
      refine take_ (i := 5) (N := some 19) (v := ?_) (a' := ?_) (bitsL 9 127) rfl rfl (take_ofW HT_.out HW_.out (by kernel_rfl)) (fun _ _ _ h => h) (Or.inl ⟨by rfl, ?_⟩) hHeld ?_ ?_; rotate_left
      ·rintro w' ⟨s0, s1, s2, s3⟩; go_simp; with_reducible rfl
      rotate_left
      ·simp only [Act.put, List.setIfInBounds_toArray, List.set_cons_zero, List.set_cons_succ, i64_w, i32_w]; rfl
      refine one_ (i := 7) (N := some 21) (bitsL 9 255) rfl rfl (one_of HT_.out (by kernel_rfl)) (by decide) (fun K hK => ?_); refine goes_ Tryd.func60 (by kernel_rfl) rfl #[.string a1] (by rfl) rfl rfl am ?_; with_reducible refine (bulletinref06_Fold.calls k1 a1 t486 _ A6.out).mono ?_; rintro e w10 ⟨rfl, hb⟩; refine ⟨_, rfl, ?_⟩; have n0_ := Aside0.mk (blk_below (g := gb484) (o := .cells #[.string a0_0, .slice (some ad485) l0_1.length c0_1] 47 (0, 0)) bk hb); have n1_ := Aside0.mk (below_step bwS hb); clear BK484 HB; have BK484 := n0_; have HB := n1_; clear n0_ n1_
      (try clear hb)
      (try clear hb2)
      (try clear hk)
      (try clear hi)
      refine hK.out _ _ ⟨(blk_cell BK484.out 0).trans rfl, (blk_cell BK484.out 1).trans rfl, ((HB.out.cell (World.block_lt_of_cell? w _ hw485_0)).trans hw485_0), ((HB.out.cell (World.block_lt_of_cell? w _ hw485_1)).trans hw485_1)⟩ (fun hHeld => ?_); clear hK K; refine norm_ (a' := ?_) ?_ ?_; rotate_left
      ·show Act.put _ (some 21) _ = _
       simp only [Act.put, List.setIfInBounds_toArray, List.set_cons_zero, List.set_cons_succ, i64_w, i32_w]; rfl
      refine pure_ (i := 8) (N := some 22) (v := ?_) (a' := ?_) (bitsL 9 511) rfl rfl (any_of HT_.out (by kernel_rfl)) (fun _ _ _ h => h) (Or.inl ⟨by rfl, ?_⟩) ?_ ?_; rotate_left
      ·intro w'; go_simp; with_reducible rfl
      rotate_left
      ·simp only [Act.put, List.setIfInBounds_toArray, List.set_cons_zero, List.set_cons_succ, i64_w, i32_w]; rfl
      refine done_ (done_of HT_.out (by kernel_rfl)) ?_; have hcz11_0 : w10.cell? ⟨gb484, 0, none⟩ = some (.string a0_0) := (blk_cell BK484.out 0).trans rfl; have hcz11_1 : w10.cell? ⟨gb484, 1, none⟩ = some (.slice (some ad485) l0_1.length c0_1) := (blk_cell BK484.out 1).trans rfl; have hfz11_0 := blk_frozen BK484.out 0; have hfz11_1 := blk_frozen BK484.out 1; have p487 : 0 ≤ (x6_1 : Int) := od; have q487 : x6_1 < (l0_1.length : Int) := od; obtain ⟨ad487, e487, hx487_0, hx487_1⟩ := at_T97 HR0_1.out x6_1 p487 q487; obtain rfl : ad485 = ad487 := (by injection e487)
      replace hx487_0 := (HB.out.cell (World.block_lt_of_cell? w _ hx487_0)).trans hx487_0; replace hx487_1 := (HB.out.cell (World.block_lt_of_cell? w _ hx487_1)).trans hx487_1; replace p487 := eq_true p487; replace q487 := eq_true q487
      try go_wp2
      go_ret2
      exact ⟨ew, bwS⟩
     ·rw [if_neg c7] at H; have c7b0 : (((rd_T97 l0_1 x6_1).f0).toList == t486.toList) = false := beq_eq_false_iff_ne.mpr c7; have c7b1 : (((rd_T97 l0_1 x6_1).f0).toList != t486.toList) = true := bne_iff_ne.mpr c7; have H' := Aside0.mk H; clear H; have hcz12_0 : wr.cell? ⟨gb484, 0, none⟩ = some (.string a0_0) := (blk_cell BK484.out 0).trans rfl; have hcz12_1 : wr.cell? ⟨gb484, 1, none⟩ = some (.slice A0_1 l0_1.length c0_1) := (blk_cell BK484.out 1).trans rfl; have hfz12_0 := blk_frozen BK484.out 0; have hfz12_1 := blk_frozen BK484.out 1
      try go_wp2
      have n0_ := Aside0.mk (blk_drew BK484.out); have n1_ := Aside0.mk (below_drew1 HB.out); clear BK484 HB; have BK484 := n0_; have HB := n1_; clear n0_ n1_; have p485 : 0 ≤ (x6_1 : Int) := od; have q485 : x6_1 < (l0_1.length : Int) := od; obtain ⟨ad485, e485, hx485_0, hx485_1⟩ := at_T97 HR0_1.out x6_1 p485 q485; have hw485_1 := hx485_1; have hw485_0 := hx485_0; cases e485; replace hx485_0 := (HB.out.cell (World.block_lt_of_cell? w _ hx485_0)).trans hx485_0; replace hx485_1 := (HB.out.cell (World.block_lt_of_cell? w _ hx485_1)).trans hx485_1; replace p485 := eq_true p485; replace q485 := eq_true q485; refine start_ (n := 9) (S := fun w' => w'.cell? ⟨gb484, 0, none⟩ = some (.string a0_0) ∧ w'.cell? ⟨gb484, 1, none⟩ = some (.slice (some ad485) l0_1.length c0_1) ∧ w'.cell? (ad485.add ((x6_1).toNat * 2)) = some (.string ((rd_T97 l0_1 x6_1).f0)) ∧ w'.cell? ⟨(ad485.add ((x6_1).toNat * 2)).block, (ad485.add ((x6_1).toNat * 2)).off + 1, none⟩ = some (.string ((rd_T97 l0_1 x6_1).f1))) (ds := []) #[false, false, false, false, false, false, false, false, false] (by kernel_rfl) rfl rfl ⟨(blk_cell BK484.out 0).trans rfl, (blk_cell BK484.out 1).trans rfl, ((HB.out.cell (World.block_lt_of_cell? w _ hw485_0)).trans hw485_0), ((HB.out.cell (World.block_lt_of_cell? w _ hw485_1)).trans hw485_1)⟩ (fun hHeld => ?_); refine with_tabW bulletinref20_Value.tab4 bulletinref20_Value.bits4 (fun HT_ HW_ => ?_)
      generalize wr.drew = w13 at BK484 HB hx485_0 hx485_1 hHeld ⊢
      refine pure_ (i := 0) (N := some 14) (v := ?_) (a' := ?_) (bitsL 9 1) rfl rfl (any_of HT_.out (by kernel_rfl)) (fun _ _ _ h => h) (Or.inl ⟨by rfl, ?_⟩) ?_ ?_; rotate_left
      ·intro w'; go_simp; with_reducible rfl
      rotate_left
      ·simp only [Act.put, List.setIfInBounds_toArray, List.set_cons_zero, List.set_cons_succ, i64_w, i32_w]; rfl
      refine pure_ (i := 2) (N := some 16) (v := ?_) (a' := ?_) (bitsL 9 5) rfl rfl (any_of HT_.out (by kernel_rfl)) (fun _ _ _ h => h) (Or.inl ⟨by rfl, ?_⟩) ?_ ?_; rotate_left
      ·intro w'; go_simp; with_reducible rfl
      rotate_left
      ·simp only [Act.put, List.setIfInBounds_toArray, List.set_cons_zero, List.set_cons_succ, i64_w, i32_w]; rfl
      refine pure_ (i := 6) (N := some 20) (v := ?_) (a' := ?_) (bitsL 9 69) rfl rfl (any_of HT_.out (by kernel_rfl)) (fun _ _ _ h => h) (Or.inl ⟨by rfl, ?_⟩) ?_ ?_; rotate_left
      ·intro w'; go_simp; with_reducible rfl
      rotate_left
      ·simp only [Act.put, List.setIfInBounds_toArray, List.set_cons_zero, List.set_cons_succ, i64_w, i32_w]; rfl
      refine take_ (i := 1) (N := some 15) (v := ?_) (a' := ?_) (bitsL 9 71) rfl rfl (take_ofW HT_.out HW_.out (by kernel_rfl)) (fun _ _ _ h => h) (Or.inl ⟨by rfl, ?_⟩) hHeld ?_ ?_; rotate_left
      ·rintro w' ⟨s0, s1, s2, s3⟩; go_simp; with_reducible rfl
      rotate_left
      ·simp only [Act.put, List.setIfInBounds_toArray, List.set_cons_zero, List.set_cons_succ, i64_w, i32_w]; rfl
      refine pure_ (i := 3) (N := some 17) (v := ?_) (a' := ?_) (bitsL 9 79) rfl rfl (any_of HT_.out (by kernel_rfl)) (fun _ _ _ h => h) (Or.inl ⟨by rfl, ?_⟩) ?_ ?_; rotate_left
      ·intro w'; go_simp; with_reducible rfl
      rotate_left
      ·simp only [Act.put, List.setIfInBounds_toArray, List.set_cons_zero, List.set_cons_succ, i64_w, i32_w]; rfl
      refine pure_ (i := 4) (N := some 18) (v := ?_) (a' := ?_) (bitsL 9 95) rfl rfl (any_of HT_.out (by kernel_rfl)) (fun _ _ _ h => h) (Or.inl ⟨by rfl, ?_⟩) ?_ ?_; rotate_left
      ·intro w'; go_simp; with_reducible rfl
      rotate_left
      ·simp only [Act.put, List.setIfInBounds_toArray, List.set_cons_zero, List.set_cons_succ, i64_w, i32_w]; rfl
      refine take_ (i := 5) (N := some 19) (v := ?_) (a' := ?_) (bitsL 9 127) rfl rfl (take_ofW HT_.out HW_.out (by kernel_rfl)) (fun _ _ _ h => h) (Or.inl ⟨by rfl, ?_⟩) hHeld ?_ ?_; rotate_left
      ·rintro w' ⟨s0, s1, s2, s3⟩; go_simp; with_reducible rfl
      rotate_left
      ·simp only [Act.put, List.setIfInBounds_toArray, List.set_cons_zero, List.set_cons_succ, i64_w, i32_w]; rfl
      refine one_ (i := 7) (N := some 21) (bitsL 9 255) rfl rfl (one_of HT_.out (by kernel_rfl)) (by decide) (fun K hK => ?_); refine goes_ Tryd.func60 (by kernel_rfl) rfl #[.string a1] (by rfl) rfl rfl am ?_; with_reducible refine (bulletinref06_Fold.calls k1 a1 t486 _ A6.out).mono ?_; rintro e w14 ⟨rfl, hb⟩; refine ⟨_, rfl, ?_⟩; have n0_ := Aside0.mk (blk_below (g := gb484) (o := .cells #[.string a0_0, .slice (some ad485) l0_1.length c0_1] 47 (0, 0)) bk hb); have n1_ := Aside0.mk (below_step bwS hb); clear BK484 HB; have BK484 := n0_; have HB := n1_; clear n0_ n1_
      (try clear hb)
      (try clear hb2)
      (try clear hk)
      (try clear hi)
      refine hK.out _ _ ⟨(blk_cell BK484.out 0).trans rfl, (blk_cell BK484.out 1).trans rfl, ((HB.out.cell (World.block_lt_of_cell? w _ hw485_0)).trans hw485_0), ((HB.out.cell (World.block_lt_of_cell? w _ hw485_1)).trans hw485_1)⟩ (fun hHeld => ?_); clear hK K; refine norm_ (a' := ?_) ?_ ?_; rotate_left
      ·show Act.put _ (some 21) _ = _
       simp only [Act.put, List.setIfInBounds_toArray, List.set_cons_zero, List.set_cons_succ, i64_w, i32_w]; rfl
      refine pure_ (i := 8) (N := some 22) (v := ?_) (a' := ?_) (bitsL 9 511) rfl rfl (any_of HT_.out (by kernel_rfl)) (fun _ _ _ h => h) (Or.inl ⟨by rfl, ?_⟩) ?_ ?_; rotate_left
      ·intro w'; go_simp; with_reducible rfl
      rotate_left
      ·simp only [Act.put, List.setIfInBounds_toArray, List.set_cons_zero, List.set_cons_succ, i64_w, i32_w]; rfl
      refine done_ (done_of HT_.out (by kernel_rfl)) ?_
      try go_wp2
      go_roundg k1
      case measure => have := HK1.out; omega
      case rel => exact ⟨(wrap64 (x6_1 + 1)), cl, H', ⟨by have := HK1.out; omega⟩, ⟨bk⟩, ⟨bwS⟩⟩
    ·rw [if_neg c5] at H; exact absurd H (by simp)
   ·rw [if_neg c4] at H; have c4b0 : decide (x6_1 < (l0_1.length : Int)) = false := decide_eq_false c4; clear c4; simp only [Option.some.injEq, Prod.mk.injEq] at H; obtain ⟨rfl, rfl⟩ := H; have hcz15_0 : wr.cell? ⟨gb484, 0, none⟩ = some (.string a0_0) := (blk_cell BK484.out 0).trans rfl; have hcz15_1 : wr.cell? ⟨gb484, 1, none⟩ = some (.slice A0_1 l0_1.length c0_1) := (blk_cell BK484.out 1).trans rfl; have hfz15_0 := blk_frozen BK484.out 0; have hfz15_1 := blk_frozen BK484.out 1
    go_wp2
    go_ret2
    exact ⟨ew, bwS⟩

end Go.Proofs.YtoikneogdbdplaaDoor.Fn
