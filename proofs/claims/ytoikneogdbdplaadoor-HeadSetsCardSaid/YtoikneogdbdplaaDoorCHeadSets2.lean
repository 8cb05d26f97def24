/- A part of the proof of this sentence: the tables of unicode/utf8 are as the program's text lays them. -/
import Derived.Test.YtoikneogdbdplaaDoorCHeadSets1
import Derived.Lib.SliceRun
import Derived.Shelf.RegionOpenPlain
namespace Go.Proofs.YtoikneogdbdplaaDoor.Fn
open Go.RowKit Go.Proofs.YtoikneogdbdplaaDoorW.PrintWords Go.Proofs.YtoikneogdbdplaaDoorW.PrintLast Go.Proofs.YtoikneogdbdplaaDoorW.PrintMore
attribute [local go_sem] max2_int min2_int max_two min_two max_three min_three max_four min_four
set_option linter.unusedVariables false
set_option linter.unusedSimpArgs false

/-! ### bulletinref15_Put: function 23 -/
mutual
def bulletinref15_Put.l0 : Nat → List (S24) → List (S24) → Bool → Int → ByteArray → ByteArray → Option ((List (S24)))
 | 0, _, _, _, _, _, _ => none
 | k + 1, x0, x5, x6, x7, x250000, x250001 => if x7 < (x0.length : Int) then (if 0 ≤ x7 then ((bulletinref15_Same.f k ((rd_T24 x0 x7).f0) x250000).bind fun t254 => (if t254 = true then (bulletinref15_Put.j1 k x0 x5 x6 x7 t254 (!x6) x250000 x250001) else (bulletinref15_Put.j1 k x0 x5 x6 x7 t254 false x250000 x250001))) else (none)) else (if x6 = true then (some x5) else (if x5.length < 4398046511104 then (some (x5 ++ [(⟨x250000, x250001⟩ : S24)])) else (none)))
def bulletinref15_Put.j1 : Nat → List (S24) → List (S24) → Bool → Int → Bool → Bool → ByteArray → ByteArray → Option ((List (S24)))
 | 0, _, _, _, _, _, _, _, _ => none
 | k + 1, x0, x5, x6, x7, x8, x27, x250000, x250001 => if x27 = true then (if x5.length < 4398046511104 then ((some (x5 ++ [(⟨x250000, x250001⟩ : S24)] : List (S24))).bind fun y255 => (if x8 = true then (bulletinref15_Put.l0 k x0 y255 true (wrap64 (x7 + 1)) x250000 x250001) else (if 0 ≤ x7 then (if x7 < (x0.length : Int) then (if y255.length < 4398046511104 then (bulletinref15_Put.l0 k x0 (y255 ++ [(⟨(rd_T24 x0 x7).f0, (rd_T24 x0 x7).f1⟩ : S24)]) true (wrap64 (x7 + 1)) x250000 x250001) else (none)) else (none)) else (none)))) else (none)) else (if x8 = true then (bulletinref15_Put.l0 k x0 x5 x6 (wrap64 (x7 + 1)) x250000 x250001) else (if 0 ≤ x7 then (if x7 < (x0.length : Int) then (if x5.length < 4398046511104 then (bulletinref15_Put.l0 k x0 (x5 ++ [(⟨(rd_T24 x0 x7).f0, (rd_T24 x0 x7).f1⟩ : S24)]) x6 (wrap64 (x7 + 1)) x250000 x250001) else (none)) else (none)) else (none)))
end
def bulletinref15_Put.f (k : Nat) (l0 : List (S24)) (a1_0 : ByteArray) (a1_1 : ByteArray) : Option ((List (S24))) := bulletinref15_Put.l0 k l0 ([] : List (S24)) false 0 a1_0 a1_1
def bulletinref15_Put.T6 : Bool × List (List Nat × List Nat) := (true, [([], []), ([], []), ([0, 1], [0, 1]), ([2], [2]), ([3], [3]), ([], []), ([5], [5]), ([4, 6], [4, 6]), ([7, 7, 0, 1, 2, 3, 4, 5, 6, 7], [7])])
def bulletinref15_Put.B6 : List Nat := [0, 0, 3, 7, 15, 0, 32, 127, 255]
theorem bulletinref15_Put.tab6 : rtab .any (opsOf Tryd.f23 6) = bulletinref15_Put.T6 := by kernel_rfl
theorem bulletinref15_Put.bits6 : waitsOk bulletinref15_Put.T6.2 bulletinref15_Put.B6 = true := by kernel_rfl
set_option maxHeartbeats 8000000 in
set_option maxRecDepth 100000 in
theorem bulletinref15_Put.calls (k : Nat) (A0 : Option Addr) (c0 : Nat) (l0 : List (S24)) (a1_0 : ByteArray) (a1_1 : ByteArray) (r : List (S24)) (w : World) (hr0 : Kd.C k24 w A0 l0.length l0) (hc0 : l0.length ≤ c0) (h : bulletinref15_Put.f k l0 a1_0 a1_1 = some r) :
  Calls Tryd.prog 23 #[.slice A0 l0.length c0, .agg #[.string a1_0, .string a1_1]] w fun e w' => ∃ v0_ : Value, e = .returned (v0_) ∧ Kd.R k24 24 w' w.heap.size (fun _ => True) v0_ r ∧ Below w.heap.size w w' := by
 have hu24 := Tryd.underlying24
 have HR0 := Aside0.mk hr0
 have HC0 := Aside0.mk hc0
 clear hr0 hc0
 have HB := Aside0.mk (Below.refl w.heap.size w)
 have H : (bulletinref15_Put.l0 k l0 ([] : List (S24)) false 0 a1_0 a1_1) = some r := h
 clear h
 have H' := Aside0.mk H
 clear H
 go_enter Tryd.func23, Tryd.ntmps23
 go_wp2_with (first | ((with_reducible refine gate_dst (N := 3) rfl ?_); refine box_event ?hg (N := 3) ?hd (cs := #[.string a1_0, .string a1_1]) (t := 24) ?hr ?_; (case hd => rfl); (case hg => rfl); (case hr => first | (go_simp; done) | (go_simp; rfl)); intro gb249 hg w3 hbox hb; have n0_ := Aside0.mk (below_step bw hb); have n1_ := Aside0.mk (hbox); have n2_ := Aside0.mk ((by rw [hg]; exact (below_size bw) : w.heap.size ≤ gb249)); have n3_ := Aside0.mk ((by rw [hg]; exact (below_size bw) : w.heap.size ≤ gb249)); clear HB; have HB := n0_; have BK249 := n1_; have GW249 := n2_; have GE249 := n3_; clear n0_ n1_ n2_ n3_; clear hb hbox hg))
 go_loopg [5, 6, 7] k (fun kq v5 v6 v7 w' => ∃ (x5_1 : List (S24)) (x6_1 : Bool) (x7_1 : Int), v6 = .bool x6_1 ∧ v7 = .int .i64 x7_1 ∧ Aside0 (bulletinref15_Put.l0 kq l0 x5_1 x6_1 x7_1 a1_0 a1_1 = some r) ∧ Aside0 (kq ≤ k) ∧ Aside0 (Kd.R k24 24 w' w.heap.size (fun k_ => k_ ≠ gb249) v5 x5_1) ∧ Aside0 (w'.heap[gb249]? = some (.cells #[.string a1_0, .string a1_1] 24 (0, 0))) ∧ Aside0 (Below w.heap.size w w'))
 case atStart => exact ⟨(([] : List (S24))), (false), (0), cl, cl, H', ⟨Nat.le_refl _⟩, ⟨by first | exact Kd.R_nil _ _ _ _ _ | exact Kd.N_nil _ _ _ _ _ | exact Kd.V_nil _ _ _ _ _ | exact Kd.Q_nil _ _ _ _ _ | exact Kd.S_nil _ _ _ _ _⟩, ⟨bk⟩, ⟨bwS⟩⟩
 case round =>
  clear H'
  try clear c2
  try clear p2
  obtain ⟨x5_1, x6_1, x7_1, rfl, rfl, HA, HK1, HO_5, BK249, HB⟩ := hrel
  cases gk with
  | zero => exact absurd HA.out (by simp [bulletinref15_Put.l0])
  | succ k1 =>
   have H := HA.out
   clear HA
   simp only [bulletinref15_Put.l0] at H
   by_cases c4 : x7_1 < (l0.length : Int)
   ·rw [if_pos c4] at H
    have c4b0 : decide (x7_1 < (l0.length : Int)) = true := decide_eq_true c4
    clear c4
    by_cases c5 : 0 ≤ x7_1
    ·rw [if_pos c5] at H
     have c5b0 : decide (0 ≤ x7_1) = true := decide_eq_true c5
     clear c5
     replace H := Option.bind_eq_some_iff.mp H
     obtain ⟨t254, A60, H⟩ := H
     replace H : (if t254 = true then (bulletinref15_Put.j1 k1 l0 x5_1 x6_1 x7_1 t254 (!x6_1) a1_0 a1_1) else (bulletinref15_Put.j1 k1 l0 x5_1 x6_1 x7_1 t254 false a1_0 a1_1)) = some r := H
     have A6 := Aside0.mk A60
     clear A60
     have HC7 := Aside0.mk H
     clear H
     try go_wp2
     have n0_ := Aside0.mk (Kd.R_drew HO_5.out)
     have n1_ := Aside0.mk (blk_drew BK249.out)
     have n2_ := Aside0.mk (below_drew1 HB.out)
     clear HO_5
     clear BK249
     clear HB
     have HO_5 := n0_
     have BK249 := n1_
     have HB := n2_
     clear n0_ n1_ n2_
     have p253 : 0 ≤ (x7_1 : Int) := od
     have q253 : x7_1 < (l0.length : Int) := od
     obtain ⟨ad253, e253, hx253_0, hx253_1⟩ := at_T24 HR0.out x7_1 p253 q253
     have hw253_1 := hx253_1
     have hw253_0 := hx253_0
     cases e253
     replace hx253_0 := (HB.out.cell (World.block_lt_of_cell? w _ hx253_0)).trans hx253_0
     replace hx253_1 := (HB.out.cell (World.block_lt_of_cell? w _ hx253_1)).trans hx253_1
     replace p253 := eq_true p253
     replace q253 := eq_true q253
     refine start_ (n := 9) (S := fun w' => w'.cell? ⟨gb249, 0, none⟩ = some (.string a1_0) ∧ w'.cell? ⟨gb249, 1, none⟩ = some (.string a1_1) ∧ w'.cell? (ad253.add ((x7_1).toNat * 2)) = some (.string ((rd_T24 l0 x7_1).f0)) ∧ w'.cell? ⟨(ad253.add ((x7_1).toNat * 2)).block, (ad253.add ((x7_1).toNat * 2)).off + 1, none⟩ = some (.string ((rd_T24 l0 x7_1).f1))) (ds := []) #[false, false, false, false, false, false, false, false, false] (by kernel_rfl) rfl rfl ⟨(blk_cell BK249.out 0).trans rfl, (blk_cell BK249.out 1).trans rfl, ((HB.out.cell (World.block_lt_of_cell? w _ hw253_0)).trans hw253_0), ((HB.out.cell (World.block_lt_of_cell? w _ hw253_1)).trans hw253_1)⟩ (fun hHeld => ?_); refine with_tabW bulletinref15_Put.tab6 bulletinref15_Put.bits6 (fun HT_ HW_ => ?_)
     generalize wr.drew = w8 at HO_5 BK249 HB hx253_0 hx253_1 hHeld ⊢
     refine pure_ (i := 0) (N := some 15) (v := ?_) (a' := ?_) (bitsL 9 1) rfl rfl (any_of HT_.out (by kernel_rfl)) (fun _ _ _ h => h) (Or.inl ⟨by rfl, ?_⟩) ?_ ?_
     rotate_left
     ·intro w'
      go_simp
      with_reducible rfl
     rotate_left
     ·simp only [Act.put, List.setIfInBounds_toArray, List.set_cons_zero, List.set_cons_succ, i64_w, i32_w]
      rfl
     refine pure_ (i := 1) (N := some 16) (v := ?_) (a' := ?_) (bitsL 9 3) rfl rfl (any_of HT_.out (by kernel_rfl)) (fun _ _ _ h => h) (Or.inl ⟨by rfl, ?_⟩) ?_ ?_
     rotate_left
     ·intro w'
      go_simp
      with_reducible rfl
     rotate_left
     ·simp only [Act.put, List.setIfInBounds_toArray, List.set_cons_zero, List.set_cons_succ, i64_w, i32_w]
      rfl
     refine pure_ (i := 2) (N := some 17) (v := ?_) (a' := ?_) (bitsL 9 7) rfl rfl (any_of HT_.out (by kernel_rfl)) (fun _ _ _ h => h) (Or.inl ⟨by rfl, ?_⟩) ?_ ?_
     rotate_left
     ·intro w'
      go_simp
      with_reducible rfl
     rotate_left
     ·simp only [Act.put, List.setIfInBounds_toArray, List.set_cons_zero, List.set_cons_succ, i64_w, i32_w]
      rfl
     refine pure_ (i := 3) (N := some 18) (v := ?_) (a' := ?_) (bitsL 9 15) rfl rfl (any_of HT_.out (by kernel_rfl)) (fun _ _ _ h => h) (Or.inl ⟨by rfl, ?_⟩) ?_ ?_
     rotate_left
     ·intro w'
      go_simp
      with_reducible rfl
     rotate_left
     ·simp only [Act.put, List.setIfInBounds_toArray, List.set_cons_zero, List.set_cons_succ, i64_w, i32_w]
      rfl
     refine pure_ (i := 5) (N := some 20) (v := ?_) (a' := ?_) (bitsL 9 47) rfl rfl (any_of HT_.out (by kernel_rfl)) (fun _ _ _ h => h) (Or.inl ⟨by rfl, ?_⟩) ?_ ?_
     rotate_left
     ·intro w'
      go_simp
      with_reducible rfl
     rotate_left
     ·simp only [Act.put, List.setIfInBounds_toArray, List.set_cons_zero, List.set_cons_succ, i64_w, i32_w]
      rfl
     refine take_ (i := 4) (N := some 19) (v := ?_) (a' := ?_) (bitsL 9 63) rfl rfl (take_ofW HT_.out HW_.out (by kernel_rfl)) (fun _ _ _ h => h) (Or.inl ⟨by rfl, ?_⟩) hHeld ?_ ?_
     rotate_left
     ·rintro w' ⟨s0, s1, s2, s3⟩
      go_simp
      with_reducible rfl
     rotate_left
     ·simp only [Act.put, List.setIfInBounds_toArray, List.set_cons_zero, List.set_cons_succ, i64_w, i32_w]
      rfl
     refine take_ (i := 6) (N := some 21) (v := ?_) (a' := ?_) (bitsL 9 127) rfl rfl (take_ofW HT_.out HW_.out (by kernel_rfl)) (fun _ _ _ h => h) (Or.inl ⟨by rfl, ?_⟩) hHeld ?_ ?_
     rotate_left
     ·rintro w' ⟨s0, s1, s2, s3⟩
      go_simp
      with_reducible rfl
     rotate_left
     ·simp only [Act.put, List.setIfInBounds_toArray, List.set_cons_zero, List.set_cons_succ, i64_w, i32_w]
      rfl
     refine one_ (i := 7) (N := some 22) (bitsL 9 255) rfl rfl (one_of HT_.out (by kernel_rfl)) (by decide) (fun K hK => ?_)
     refine goes_ Tryd.func17 (by kernel_rfl) rfl #[.string ((rd_T24 l0 x7_1).f0), .string a1_0] (by rfl) rfl rfl am ?_
     with_reducible refine (bulletinref15_Same.calls k1 ((rd_T24 l0 x7_1).f0) a1_0 t254 _ A6.out).mono ?_
     rintro e w9 ⟨rfl, hb⟩
     refine ⟨_, rfl, ?_⟩
     have n0_ := Aside0.mk (Kd.R_below (by (with_reducible repeat (first | apply Kd.R_alloc | apply Kd.R_drewN | apply Kd.R_drew)); exact HO_5.out) hb)
     have n1_ := Aside0.mk (blk_below (g := gb249) (o := .cells #[.string a1_0, .string a1_1] 24 (0, 0)) bk hb)
     have n2_ := Aside0.mk (below_step bwS hb)
     clear HO_5
     clear BK249
     clear HB
     have HO_5 := n0_
     have BK249 := n1_
     have HB := n2_
     clear n0_ n1_ n2_
     (try clear hb)
     (try clear hb2)
     (try clear hk)
     (try clear hi)
     refine hK.out _ _ ⟨(blk_cell BK249.out 0).trans rfl, (blk_cell BK249.out 1).trans rfl, ((HB.out.cell (World.block_lt_of_cell? w _ hw253_0)).trans hw253_0), ((HB.out.cell (World.block_lt_of_cell? w _ hw253_1)).trans hw253_1)⟩ (fun hHeld => ?_)
     clear hK K
     refine norm_ (a' := ?_) ?_ ?_
     rotate_left
     ·show Act.put _ (some 22) _ = _
      simp only [Act.put, List.setIfInBounds_toArray, List.set_cons_zero, List.set_cons_succ, i64_w, i32_w]
      rfl
     refine pure_ (i := 8) (N := some 8) (v := ?_) (a' := ?_) (bitsL 9 511) rfl rfl (any_of HT_.out (by kernel_rfl)) (fun _ _ _ h => h) (Or.inl ⟨by rfl, ?_⟩) ?_ ?_
     rotate_left
     ·intro w'
      go_simp
      with_reducible rfl
     rotate_left
     ·simp only [Act.put, List.setIfInBounds_toArray, List.set_cons_zero, List.set_cons_succ, i64_w, i32_w]
      rfl
     refine done_ (done_of HT_.out (by kernel_rfl)) ?_
     go_upto_region 7 with (fail)
     go_cut [27] (fun v27 wc => ∃ (kq : Nat) (x27_6 : Bool), v27 = .bool x27_6 ∧ Aside0 (bulletinref15_Put.j1 kq l0 x5_1 x6_1 x7_1 t254 x27_6 a1_0 a1_1 = some r) ∧ Aside0 (kq ≤ k1) ∧ Aside0 (Kd.R k24 24 wc w.heap.size (fun k_ => k_ ≠ gb249) u5 x5_1) ∧ Aside0 (wc.heap[gb249]? = some (.cells #[.string a1_0, .string a1_1] 24 (0, 0))) ∧ Aside0 (Below w.heap.size w wc))
     case first =>
      have H := HC7.out
      clear HC7
      by_cases c10 : t254 = true
      ·subst c10
       have H1 : (bulletinref15_Put.j1 k1 l0 x5_1 x6_1 x7_1 true (!x6_1) a1_0 a1_1) = some r := by rw [if_pos rfl] at H; exact H
       clear H
       have H := H1
       clear H1
       have H' := Aside0.mk H
       clear H
       go_wp2
       go_meet
       case rel => exact ⟨_, (!x6_1), cl, H', ⟨by have := HK1.out; first | omega | exact Nat.le_refl _⟩, ⟨by (with_reducible repeat (first | apply Kd.R_alloc | apply Kd.R_drewN | apply Kd.R_drew)); exact HO_5.out⟩, ⟨bk⟩, ⟨bwS⟩⟩
      ·replace c10 := Bool.eq_false_iff.mpr c10
       subst c10
       have H1 : (bulletinref15_Put.j1 k1 l0 x5_1 x6_1 x7_1 false false a1_0 a1_1) = some r := by rw [if_neg (show ¬ (false = true) by decide)] at H; exact H
       clear H
       have H := H1
       clear H1
       have H' := Aside0.mk H
       clear H
       go_wp2
       go_meet
       case rel => exact ⟨_, (false), cl, H', ⟨by have := HK1.out; first | omega | exact Nat.le_refl _⟩, ⟨by (with_reducible repeat (first | apply Kd.R_alloc | apply Kd.R_drewN | apply Kd.R_drew)); exact HO_5.out⟩, ⟨bk⟩, ⟨bwS⟩⟩
     case rest =>
      clear HC7
      try clear c1
      try clear c2
      try clear p2
      try clear q2
      try clear hx2
      try clear c4
      try clear c4b0
      try clear c5
      try clear c5b0
      try clear c10
      try clear hx253_0
      try clear hx253_1
      try clear p2
      try clear p253
      try clear q253
      obtain ⟨kq, x27_6, rfl, HA, HJ6, HO_5, BK249, HB⟩ := hcut
      cases kq with
      | zero => exact absurd HA.out (by simp [bulletinref15_Put.j1])
      | succ kj6 =>
       have H := HA.out
       clear HA
       simp only [bulletinref15_Put.j1] at H
       by_cases c11 : x27_6 = true
       ·subst c11
        have H1 : (if x5_1.length < 4398046511104 then ((some (x5_1 ++ [(⟨a1_0, a1_1⟩ : S24)] : List (S24))).bind fun y255 => (if t254 = true then (bulletinref15_Put.l0 kj6 l0 y255 true (wrap64 (x7_1 + 1)) a1_0 a1_1) else (if 0 ≤ x7_1 then (if x7_1 < (l0.length : Int) then (if y255.length < 4398046511104 then (bulletinref15_Put.l0 kj6 l0 (y255 ++ [(⟨(rd_T24 l0 x7_1).f0, (rd_T24 l0 x7_1).f1⟩ : S24)]) true (wrap64 (x7_1 + 1)) a1_0 a1_1) else (none)) else (none)) else (none)))) else (none)) = some r := by rw [if_pos rfl] at H; exact H
        clear H
        have H := H1
        clear H1
        by_cases c12 : x5_1.length < 4398046511104
        ·rw [if_pos c12] at H
         have LMc12 := Aside0.mk c12
         clear c12
         obtain ⟨y255, hy255⟩ : ∃ y_ : List (S24), y_ = (x5_1 ++ [(⟨a1_0, a1_1⟩ : S24)]) := ⟨_, rfl⟩
         replace H : (if t254 = true then (bulletinref15_Put.l0 kj6 l0 y255 true (wrap64 (x7_1 + 1)) a1_0 a1_1) else (if 0 ≤ x7_1 then (if x7_1 < (l0.length : Int) then (if y255.length < 4398046511104 then (bulletinref15_Put.l0 kj6 l0 (y255 ++ [(⟨(rd_T24 l0 x7_1).f0, (rd_T24 l0 x7_1).f1⟩ : S24)]) true (wrap64 (x7_1 + 1)) a1_0 a1_1) else (none)) else (none)) else (none))) = some r := by first | (rw [hy255]; with_reducible exact H) | (have H2_ := (Option.bind_some _ _).symm.trans H; rw [hy255]; with_reducible exact H2_) | (have H2_ := (Option.bind_some _ _).symm.trans H; with_reducible exact H2_) | with_reducible exact H | (rw [hy255]; exact H) | exact H
         have Ny255 := Aside0.mk hy255
         clear hy255
         by_cases c13 : t254 = true
         ·subst c13
          have H1 : (bulletinref15_Put.l0 kj6 l0 y255 true (wrap64 (x7_1 + 1)) a1_0 a1_1) = some r := by rw [if_pos rfl] at H; exact H
          clear H
          have H := H1
          clear H1
          have H' := Aside0.mk H
          clear H
          have hcz14_0 : wc.cell? ⟨gb249, 0, none⟩ = some (.string a1_0) := (blk_cell BK249.out 0).trans rfl
          have hcz14_1 : wc.cell? ⟨gb249, 1, none⟩ = some (.string a1_1) := (blk_cell BK249.out 1).trans rfl
          have hfz14_0 := blk_frozen BK249.out 0
          have hfz14_1 := blk_frozen BK249.out 1
          go_wp2_with (first | ((with_reducible refine gate_builtin (b := .append) (xs := #[.tmp 28, .tmp 30]) rfl ?_); at_builtin; refine Kd.R_append k24 (w0 := w) w.heap.size rfl (.tmp 28) (.tmp 30) 22 24 (.agg #[(.string ⟨#[]⟩), (.string ⟨#[]⟩)]) 32 rfl Tryd.underlying22 info24 rfl (by decide) (by omega) u5 x5_1 (⟨a1_0, a1_1⟩ : S24) [.string a1_0, .string a1_1] (fun k_ => k_ ≠ gb249) (fun _ => False) rfl rfl ?aP (fun _ hk => hk.elim) ?aF ?aO ?aB ?aS ?aL ?_; (case aP => exact k24_mkM _ _ _ (⟨a1_0, a1_1⟩ : S24)); (case aB => exact bwS); (case aF => exact (fun k_ hk => Kd.freshB (g := gb249) (o := .cells #[.string a1_0, .string a1_1] 24 (0, 0)) bk k_ hk)); (case aO => exact (by (with_reducible repeat (first | apply Kd.R_alloc | apply Kd.R_drewN | apply Kd.R_drew)); exact HO_5.out)); (case aS => exact (below_size bwS)); (case aL => have := LMc12.out; omega); intro v256 w15 ho hb hg hat; rw [← Ny255.out] at ho; have n0_ := Aside0.mk (blk_grown (g := gb249) (o := .cells #[.string a1_0, .string a1_1] 24 (0, 0)) bk hg (Kd.R_away HO_5.out (fun _ hk => hk))); have n1_ := Aside0.mk (hb); have n2_ := Aside0.mk (ho); clear BK249; clear HB; clear HO_5; have BK249 := n0_; have HB := n1_; have HO257 := n2_; clear n0_ n1_ n2_; clear ho hb hg hat))
          go_roundg kj6
          case measure => have := HK1.out; have := HJ6.out; omega
          case rel => exact ⟨(y255), (true), (wrap64 (x7_1 + 1)), cl, cl, H', ⟨by have := HK1.out; have := HJ6.out; omega⟩, ⟨by (with_reducible repeat (first | apply Kd.R_alloc | apply Kd.R_drewN | apply Kd.R_drew)); exact HO257.out⟩, ⟨bk⟩, ⟨bwS⟩⟩
         ·replace c13 := Bool.eq_false_iff.mpr c13
          subst c13
          have H1 : (if 0 ≤ x7_1 then (if x7_1 < (l0.length : Int) then (if y255.length < 4398046511104 then (bulletinref15_Put.l0 kj6 l0 (y255 ++ [(⟨(rd_T24 l0 x7_1).f0, (rd_T24 l0 x7_1).f1⟩ : S24)]) true (wrap64 (x7_1 + 1)) a1_0 a1_1) else (none)) else (none)) else (none)) = some r := by rw [if_neg (show ¬ (false = true) by decide)] at H; exact H
          clear H
          have H := H1
          clear H1
          by_cases c16 : 0 ≤ x7_1
          ·rw [if_pos c16] at H
           have c16b0 : decide (0 ≤ x7_1) = true := decide_eq_true c16
           clear c16
           by_cases c17 : x7_1 < (l0.length : Int)
           ·rw [if_pos c17] at H
            have c17b0 : decide (x7_1 < (l0.length : Int)) = true := decide_eq_true c17
            clear c17
            by_cases c18 : y255.length < 4398046511104
            ·rw [if_pos c18] at H
             have LMc18 := Aside0.mk c18
             clear c18
             obtain ⟨y259, hy259⟩ : ∃ y_ : List (S24), y_ = (y255 ++ [(⟨(rd_T24 l0 x7_1).f0, (rd_T24 l0 x7_1).f1⟩ : S24)]) := ⟨_, rfl⟩
             replace H : (bulletinref15_Put.l0 kj6 l0 y259 true (wrap64 (x7_1 + 1)) a1_0 a1_1) = some r := by first | (rw [hy259]; with_reducible exact H) | (have H2_ := (Option.bind_some _ _).symm.trans H; rw [hy259]; with_reducible exact H2_) | (have H2_ := (Option.bind_some _ _).symm.trans H; with_reducible exact H2_) | with_reducible exact H | (rw [hy259]; exact H) | exact H
             have Ny259 := Aside0.mk hy259
             clear hy259
             have H' := Aside0.mk H
             clear H
             have hcz19_0 : wc.cell? ⟨gb249, 0, none⟩ = some (.string a1_0) := (blk_cell BK249.out 0).trans rfl
             have hcz19_1 : wc.cell? ⟨gb249, 1, none⟩ = some (.string a1_1) := (blk_cell BK249.out 1).trans rfl
             have hfz19_0 := blk_frozen BK249.out 0
             have hfz19_1 := blk_frozen BK249.out 1
             go_wp2_with (first | ((with_reducible refine gate_builtin (b := .append) (xs := #[.tmp 28, .tmp 30]) rfl ?_); at_builtin; refine Kd.R_append k24 (w0 := w) w.heap.size rfl (.tmp 28) (.tmp 30) 22 24 (.agg #[(.string ⟨#[]⟩), (.string ⟨#[]⟩)]) 32 rfl Tryd.underlying22 info24 rfl (by decide) (by omega) u5 x5_1 (⟨a1_0, a1_1⟩ : S24) [.string a1_0, .string a1_1] (fun k_ => k_ ≠ gb249) (fun _ => False) rfl rfl ?aP (fun _ hk => hk.elim) ?aF ?aO ?aB ?aS ?aL ?_; (case aP => exact k24_mkM _ _ _ (⟨a1_0, a1_1⟩ : S24)); (case aB => exact bwS); (case aF => exact (fun k_ hk => Kd.freshB (g := gb249) (o := .cells #[.string a1_0, .string a1_1] 24 (0, 0)) bk k_ hk)); (case aO => exact (by (with_reducible repeat (first | apply Kd.R_alloc | apply Kd.R_drewN | apply Kd.R_drew)); exact HO_5.out)); (case aS => exact (below_size bwS)); (case aL => have := LMc12.out; omega); intro v256 w20 ho hb hg hat; rw [← Ny255.out] at ho; have n0_ := Aside0.mk (blk_grown (g := gb249) (o := .cells #[.string a1_0, .string a1_1] 24 (0, 0)) bk hg (Kd.R_away HO_5.out (fun _ hk => hk))); have n1_ := Aside0.mk (hb); have n2_ := Aside0.mk (ho); clear BK249; clear HB; clear HO_5; have BK249 := n0_; have HB := n1_; have HO257 := n2_; clear n0_ n1_ n2_; clear ho hb hg hat; have p258 : 0 ≤ (x7_1 : Int) := od; have q258 : x7_1 < (l0.length : Int) := od; obtain ⟨ad258, e258, hx258_0, hx258_1⟩ := at_T24 HR0.out x7_1 p258 q258; obtain rfl : ad253 = ad258 := (by injection e258); replace hx258_0 := (HB.out.cell (World.block_lt_of_cell? w _ hx258_0)).trans hx258_0; replace hx258_1 := (HB.out.cell (World.block_lt_of_cell? w _ hx258_1)).trans hx258_1; replace p258 := eq_true p258; replace q258 := eq_true q258) | ((with_reducible refine gate_builtin (b := .append) (xs := #[.tmp 34, .tmp 39]) rfl ?_); at_builtin; refine Kd.R_append k24 (w0 := w) w.heap.size rfl (.tmp 34) (.tmp 39) 22 24 (.agg #[(.string ⟨#[]⟩), (.string ⟨#[]⟩)]) 32 rfl Tryd.underlying22 info24 rfl (by decide) (by omega) v256 y255 (⟨(rd_T24 l0 x7_1).f0, (rd_T24 l0 x7_1).f1⟩ : S24) [.string ((rd_T24 l0 x7_1).f0), .string ((rd_T24 l0 x7_1).f1)] (fun k_ => k_ ≠ gb249) (fun _ => False) rfl rfl ?aP (fun _ hk => hk.elim) ?aF ?aO ?aB ?aS ?aL ?_; (case aP => exact k24_mkM _ _ _ (⟨(rd_T24 l0 x7_1).f0, (rd_T24 l0 x7_1).f1⟩ : S24)); (case aB => exact bwS); (case aF => exact (fun k_ hk => Kd.freshB (g := gb249) (o := .cells #[.string a1_0, .string a1_1] 24 (0, 0)) bk k_ hk)); (case aO => exact (by (with_reducible repeat (first | apply Kd.R_alloc | apply Kd.R_drewN | apply Kd.R_drew)); exact HO257.out)); (case aS => exact (below_size bwS)); (case aL => have := LMc18.out; omega); intro v260 w21 ho hb hg hat; rw [← Ny259.out] at ho; have n0_ := Aside0.mk (blk_grown (g := gb249) (o := .cells #[.string a1_0, .string a1_1] 24 (0, 0)) bk hg (Kd.R_away HO257.out (fun _ hk => hk))); have n1_ := Aside0.mk (hb); have n2_ := Aside0.mk (ho); clear BK249; clear HB; clear HO257; have BK249 := n0_; have HB := n1_; have HO261 := n2_; clear n0_ n1_ n2_; clear ho hb hg hat))
             go_roundg kj6
             case measure => have := HK1.out; have := HJ6.out; omega
             case rel => exact ⟨(y259), (true), (wrap64 (x7_1 + 1)), cl, cl, H', ⟨by have := HK1.out; have := HJ6.out; omega⟩, ⟨by (with_reducible repeat (first | apply Kd.R_alloc | apply Kd.R_drewN | apply Kd.R_drew)); exact HO261.out⟩, ⟨bk⟩, ⟨bwS⟩⟩
            ·rw [if_neg c18] at H
             exact absurd H (by simp)
           ·rw [if_neg c17] at H
            exact absurd H (by simp)
          ·rw [if_neg c16] at H
           exact absurd H (by simp)
        ·rw [if_neg c12] at H
         exact absurd H (by simp)
       ·replace c11 := Bool.eq_false_iff.mpr c11
        subst c11
        have H1 : (if t254 = true then (bulletinref15_Put.l0 kj6 l0 x5_1 x6_1 (wrap64 (x7_1 + 1)) a1_0 a1_1) else (if 0 ≤ x7_1 then (if x7_1 < (l0.length : Int) then (if x5_1.length < 4398046511104 then (bulletinref15_Put.l0 kj6 l0 (x5_1 ++ [(⟨(rd_T24 l0 x7_1).f0, (rd_T24 l0 x7_1).f1⟩ : S24)]) x6_1 (wrap64 (x7_1 + 1)) a1_0 a1_1) else (none)) else (none)) else (none))) = some r := by rw [if_neg (show ¬ (false = true) by decide)] at H; exact H
        clear H
        have H := H1
        clear H1
        by_cases c22 : t254 = true
        ·subst c22
         have H1 : (bulletinref15_Put.l0 kj6 l0 x5_1 x6_1 (wrap64 (x7_1 + 1)) a1_0 a1_1) = some r := by rw [if_pos rfl] at H; exact H
         clear H
         have H := H1
         clear H1
         have H' := Aside0.mk H
         clear H
         go_wp2
         go_roundg kj6
         case measure => have := HK1.out; have := HJ6.out; omega
         case rel => exact ⟨(x5_1), (x6_1), (wrap64 (x7_1 + 1)), cl, cl, H', ⟨by have := HK1.out; have := HJ6.out; omega⟩, ⟨by (with_reducible repeat (first | apply Kd.R_alloc | apply Kd.R_drewN | apply Kd.R_drew)); exact HO_5.out⟩, ⟨bk⟩, ⟨bwS⟩⟩
        ·replace c22 := Bool.eq_false_iff.mpr c22
         subst c22
         have H1 : (if 0 ≤ x7_1 then (if x7_1 < (l0.length : Int) then (if x5_1.length < 4398046511104 then (bulletinref15_Put.l0 kj6 l0 (x5_1 ++ [(⟨(rd_T24 l0 x7_1).f0, (rd_T24 l0 x7_1).f1⟩ : S24)]) x6_1 (wrap64 (x7_1 + 1)) a1_0 a1_1) else (none)) else (none)) else (none)) = some r := by rw [if_neg (show ¬ (false = true) by decide)] at H; exact H
         clear H
         have H := H1
         clear H1
         by_cases c23 : 0 ≤ x7_1
         ·rw [if_pos c23] at H
          have c23b0 : decide (0 ≤ x7_1) = true := decide_eq_true c23
          clear c23
          by_cases c24 : x7_1 < (l0.length : Int)
          ·rw [if_pos c24] at H
           have c24b0 : decide (x7_1 < (l0.length : Int)) = true := decide_eq_true c24
           clear c24
           by_cases c25 : x5_1.length < 4398046511104
           ·rw [if_pos c25] at H
            have LMc25 := Aside0.mk c25
            clear c25
            obtain ⟨y263, hy263⟩ : ∃ y_ : List (S24), y_ = (x5_1 ++ [(⟨(rd_T24 l0 x7_1).f0, (rd_T24 l0 x7_1).f1⟩ : S24)]) := ⟨_, rfl⟩
            replace H : (bulletinref15_Put.l0 kj6 l0 y263 x6_1 (wrap64 (x7_1 + 1)) a1_0 a1_1) = some r := by first | (rw [hy263]; with_reducible exact H) | (have H2_ := (Option.bind_some _ _).symm.trans H; rw [hy263]; with_reducible exact H2_) | (have H2_ := (Option.bind_some _ _).symm.trans H; with_reducible exact H2_) | with_reducible exact H | (rw [hy263]; exact H) | exact H
            have Ny263 := Aside0.mk hy263
            clear hy263
            have H' := Aside0.mk H
            clear H
            have p262 : 0 ≤ (x7_1 : Int) := od
            have q262 : x7_1 < (l0.length : Int) := od
            obtain ⟨ad262, e262, hx262_0, hx262_1⟩ := at_T24 HR0.out x7_1 p262 q262
            obtain rfl : ad253 = ad262 := (by injection e262)
            replace hx262_0 := (HB.out.cell (World.block_lt_of_cell? w _ hx262_0)).trans hx262_0
            replace hx262_1 := (HB.out.cell (World.block_lt_of_cell? w _ hx262_1)).trans hx262_1
            replace p262 := eq_true p262
            replace q262 := eq_true q262
            go_wp2_with (first | ((with_reducible refine gate_builtin (b := .append) (xs := #[.tmp 34, .tmp 39]) rfl ?_); at_builtin; refine Kd.R_append k24 (w0 := w) w.heap.size rfl (.tmp 34) (.tmp 39) 22 24 (.agg #[(.string ⟨#[]⟩), (.string ⟨#[]⟩)]) 32 rfl Tryd.underlying22 info24 rfl (by decide) (by omega) u5 x5_1 (⟨(rd_T24 l0 x7_1).f0, (rd_T24 l0 x7_1).f1⟩ : S24) [.string ((rd_T24 l0 x7_1).f0), .string ((rd_T24 l0 x7_1).f1)] (fun k_ => k_ ≠ gb249) (fun _ => False) rfl rfl ?aP (fun _ hk => hk.elim) ?aF ?aO ?aB ?aS ?aL ?_; (case aP => exact k24_mkM _ _ _ (⟨(rd_T24 l0 x7_1).f0, (rd_T24 l0 x7_1).f1⟩ : S24)); (case aB => exact bwS); (case aF => exact (fun k_ hk => Kd.freshB (g := gb249) (o := .cells #[.string a1_0, .string a1_1] 24 (0, 0)) bk k_ hk)); (case aO => exact (by (with_reducible repeat (first | apply Kd.R_alloc | apply Kd.R_drewN | apply Kd.R_drew)); exact HO_5.out)); (case aS => exact (below_size bwS)); (case aL => have := LMc25.out; omega); intro v264 w26 ho hb hg hat; rw [← Ny263.out] at ho; have n0_ := Aside0.mk (blk_grown (g := gb249) (o := .cells #[.string a1_0, .string a1_1] 24 (0, 0)) bk hg (Kd.R_away HO_5.out (fun _ hk => hk))); have n1_ := Aside0.mk (hb); have n2_ := Aside0.mk (ho); clear BK249; clear HB; clear HO_5; have BK249 := n0_; have HB := n1_; have HO265 := n2_; clear n0_ n1_ n2_; clear ho hb hg hat))
            go_roundg kj6
            case measure => have := HK1.out; have := HJ6.out; omega
            case rel => exact ⟨(y263), (x6_1), (wrap64 (x7_1 + 1)), cl, cl, H', ⟨by have := HK1.out; have := HJ6.out; omega⟩, ⟨by (with_reducible repeat (first | apply Kd.R_alloc | apply Kd.R_drewN | apply Kd.R_drew)); exact HO265.out⟩, ⟨bk⟩, ⟨bwS⟩⟩
           ·rw [if_neg c25] at H
            exact absurd H (by simp)
          ·rw [if_neg c24] at H
           exact absurd H (by simp)
         ·rw [if_neg c23] at H
          exact absurd H (by simp)
    ·rw [if_neg c5] at H
     exact absurd H (by simp)
   ·rw [if_neg c4] at H
    have c4b0 : decide (x7_1 < (l0.length : Int)) = false := decide_eq_false c4
    clear c4
    by_cases c27 : x6_1 = true
    ·subst c27
     have H1 : (some x5_1) = some r := by rw [if_pos rfl] at H; exact H
     clear H
     have H := H1
     clear H1
     obtain rfl := Option.some.inj H
     go_wp2
     go_ret
     exact ⟨_, by first | rfl | (simp [errW_none, errW_some] <;> rfl) | (simp [*, errW_none, errW_some] <;> rfl), by (with_reducible repeat (first | apply Kd.R_alloc | apply Kd.R_drewN | apply Kd.R_drew)); exact Kd.R_mono HO_5.out (fun _ hk => trivial), bwS⟩
    ·replace c27 := Bool.eq_false_iff.mpr c27
     subst c27
     have H1 : (if x5_1.length < 4398046511104 then (some (x5_1 ++ [(⟨a1_0, a1_1⟩ : S24)])) else (none)) = some r := by rw [if_neg (show ¬ (false = true) by decide)] at H; exact H
     clear H
     have H := H1
     clear H1
     by_cases c28 : x5_1.length < 4398046511104
     ·rw [if_pos c28] at H
      have LMc28 := Aside0.mk c28
      clear c28
      obtain ⟨y250, hy250⟩ : ∃ y_ : List (S24), y_ = (x5_1 ++ [(⟨a1_0, a1_1⟩ : S24)]) := ⟨_, rfl⟩
      replace H : (some y250) = some r := by first | (rw [hy250]; with_reducible exact H) | (have H2_ := (Option.bind_some _ _).symm.trans H; rw [hy250]; with_reducible exact H2_) | (have H2_ := (Option.bind_some _ _).symm.trans H; with_reducible exact H2_) | with_reducible exact H | (rw [hy250]; exact H) | exact H
      have Ny250 := Aside0.mk hy250
      clear hy250
      obtain rfl := Option.some.inj H
      have hcz29_0 : wr.cell? ⟨gb249, 0, none⟩ = some (.string a1_0) := (blk_cell BK249.out 0).trans rfl
      have hcz29_1 : wr.cell? ⟨gb249, 1, none⟩ = some (.string a1_1) := (blk_cell BK249.out 1).trans rfl
      have hfz29_0 := blk_frozen BK249.out 0
      have hfz29_1 := blk_frozen BK249.out 1
      go_wp2_with (first | ((with_reducible refine gate_builtin (b := .append) (xs := #[.tmp 43, .tmp 45]) rfl ?_); at_builtin; refine Kd.R_append k24 (w0 := w) w.heap.size rfl (.tmp 43) (.tmp 45) 22 24 (.agg #[(.string ⟨#[]⟩), (.string ⟨#[]⟩)]) 32 rfl Tryd.underlying22 info24 rfl (by decide) (by omega) u5 x5_1 (⟨a1_0, a1_1⟩ : S24) [.string a1_0, .string a1_1] (fun k_ => k_ ≠ gb249) (fun _ => False) rfl rfl ?aP (fun _ hk => hk.elim) ?aF ?aO ?aB ?aS ?aL ?_; (case aP => exact k24_mkM _ _ _ (⟨a1_0, a1_1⟩ : S24)); (case aB => exact bwS); (case aF => exact (fun k_ hk => Kd.freshB (g := gb249) (o := .cells #[.string a1_0, .string a1_1] 24 (0, 0)) bk k_ hk)); (case aO => exact (by (with_reducible repeat (first | apply Kd.R_alloc | apply Kd.R_drewN | apply Kd.R_drew)); exact HO_5.out)); (case aS => exact (below_size bwS)); (case aL => have := LMc28.out; omega); intro v251 w30 ho hb hg hat; rw [← Ny250.out] at ho; have n0_ := Aside0.mk (blk_grown (g := gb249) (o := .cells #[.string a1_0, .string a1_1] 24 (0, 0)) bk hg (Kd.R_away HO_5.out (fun _ hk => hk))); have n1_ := Aside0.mk (hb); have n2_ := Aside0.mk (ho); clear BK249; clear HB; clear HO_5; have BK249 := n0_; have HB := n1_; have HO252 := n2_; clear n0_ n1_ n2_; clear ho hb hg hat))
      go_ret
      exact ⟨_, by first | rfl | (simp [errW_none, errW_some] <;> rfl) | (simp [*, errW_none, errW_some] <;> rfl), by (with_reducible repeat (first | apply Kd.R_alloc | apply Kd.R_drewN | apply Kd.R_drew)); exact Kd.R_mono HO252.out (fun _ hk => trivial), bwS⟩
     ·rw [if_neg c28] at H
      exact absurd H (by simp)

end Go.Proofs.YtoikneogdbdplaaDoor.Fn
namespace Go.Proofs.YtoikneogdbdplaaDoor.Fn
open Go.RowKit Go.Proofs.YtoikneogdbdplaaDoorW.PrintWords Go.Proofs.YtoikneogdbdplaaDoorW.PrintLast Go.Proofs.YtoikneogdbdplaaDoorW.PrintMore
attribute [local go_sem] max2_int min2_int max_two min_two max_three min_three max_four min_four
set_option linter.unusedVariables false
set_option linter.unusedSimpArgs false

/-! ### bulletinref15_Without: function 24 -/
def bulletinref15_Without.l0 : Nat → List (S24) → ByteArray → List (S24) → Int → Option ((List (S24)))
 | 0, _, _, _, _ => none
 | k + 1, x0, x1, x5, x6 => if x6 < (x0.length : Int) then (if 0 ≤ x6 then ((bulletinref15_Same.f k ((rd_T24 x0 x6).f0) x1).bind fun t267 => (if t267 = true then (bulletinref15_Without.l0 k x0 x1 x5 (wrap64 (x6 + 1))) else (if x5.length < 4398046511104 then (bulletinref15_Without.l0 k x0 x1 (x5 ++ [(⟨(rd_T24 x0 x6).f0, (rd_T24 x0 x6).f1⟩ : S24)]) (wrap64 (x6 + 1))) else (none)))) else (none)) else (some x5)
def bulletinref15_Without.f (k : Nat) (l0 : List (S24)) (a1 : ByteArray) : Option ((List (S24))) := bulletinref15_Without.l0 k l0 a1 ([] : List (S24)) 0
set_option maxHeartbeats 8000000 in
set_option maxRecDepth 100000 in
theorem bulletinref15_Without.calls (k : Nat) (A0 : Option Addr) (c0 : Nat) (l0 : List (S24)) (a1 : ByteArray) (r : List (S24)) (w : World) (hr0 : Kd.C k24 w A0 l0.length l0) (hc0 : l0.length ≤ c0) (h : bulletinref15_Without.f k l0 a1 = some r) :
  Calls Tryd.prog 24 #[.slice A0 l0.length c0, .string a1] w fun e w' => ∃ v0_ : Value, e = .returned (v0_) ∧ Kd.R k24 24 w' w.heap.size (fun _ => True) v0_ r ∧ Below w.heap.size w w' := by
 have hu24 := Tryd.underlying24
 have HR0 := Aside0.mk hr0
 have HC0 := Aside0.mk hc0
 clear hr0 hc0
 have HB := Aside0.mk (Below.refl w.heap.size w)
 have H : (bulletinref15_Without.l0 k l0 a1 ([] : List (S24)) 0) = some r := h
 clear h
 have H' := Aside0.mk H
 clear H
 go_enter Tryd.func24, Tryd.ntmps24
 go_wp2
 go_loopg [5, 6] k (fun kq v5 v6 w' => ∃ (x5_1 : List (S24)) (x6_1 : Int), v6 = .int .i64 x6_1 ∧ Aside0 (bulletinref15_Without.l0 kq l0 a1 x5_1 x6_1 = some r) ∧ Aside0 (kq ≤ k) ∧ Aside0 (Kd.R k24 24 w' w.heap.size (fun _ => True) v5 x5_1) ∧ Aside0 (Below w.heap.size w w'))
 case atStart => exact ⟨(([] : List (S24))), (0), cl, H', ⟨Nat.le_refl _⟩, ⟨by first | exact Kd.R_nil _ _ _ _ _ | exact Kd.N_nil _ _ _ _ _ | exact Kd.V_nil _ _ _ _ _ | exact Kd.Q_nil _ _ _ _ _ | exact Kd.S_nil _ _ _ _ _⟩, ⟨bw⟩⟩
 case round =>
  clear H'
  try clear c2
  try clear p2
  obtain ⟨x5_1, x6_1, rfl, HA, HK1, HO_5, HB⟩ := hrel
  cases gk with
  | zero => exact absurd HA.out (by simp [bulletinref15_Without.l0])
  | succ k1 =>
   have H := HA.out
   clear HA
   simp only [bulletinref15_Without.l0] at H
   by_cases c3 : x6_1 < (l0.length : Int)
   ·rw [if_pos c3] at H
    have c3b0 : decide (x6_1 < (l0.length : Int)) = true := decide_eq_true c3
    clear c3
    by_cases c4 : 0 ≤ x6_1
    ·rw [if_pos c4] at H
     have c4b0 : decide (0 ≤ x6_1) = true := decide_eq_true c4
     clear c4
     replace H := Option.bind_eq_some_iff.mp H
     obtain ⟨t267, A50, H⟩ := H
     replace H : (if t267 = true then (bulletinref15_Without.l0 k1 l0 a1 x5_1 (wrap64 (x6_1 + 1))) else (if x5_1.length < 4398046511104 then (bulletinref15_Without.l0 k1 l0 a1 (x5_1 ++ [(⟨(rd_T24 l0 x6_1).f0, (rd_T24 l0 x6_1).f1⟩ : S24)]) (wrap64 (x6_1 + 1))) else (none))) = some r := H
     have A5 := Aside0.mk A50
     clear A50
     by_cases c6 : t267 = true
     ·subst c6
      have H1 : (bulletinref15_Without.l0 k1 l0 a1 x5_1 (wrap64 (x6_1 + 1))) = some r := by rw [if_pos rfl] at H; exact H
      clear H
      have H := H1
      clear H1
      have H' := Aside0.mk H
      clear H
      have p266 : 0 ≤ (x6_1 : Int) := od
      have q266 : x6_1 < (l0.length : Int) := od
      obtain ⟨ad266, e266, hx266_0, hx266_1⟩ := at_T24 HR0.out x6_1 p266 q266
      cases e266
      replace hx266_0 := (HB.out.cell (World.block_lt_of_cell? w _ hx266_0)).trans hx266_0
      replace hx266_1 := (HB.out.cell (World.block_lt_of_cell? w _ hx266_1)).trans hx266_1
      replace p266 := eq_true p266
      replace q266 := eq_true q266
      go_wp2_with (first | ((with_reducible refine gate_callee (f := 17) rfl ?_); refine goesL_ (some 19) rfl rfl Tryd.func17 (by kernel_rfl) rfl #[.string ((rd_T24 l0 x6_1).f0), .string a1] rfl am ?_; (with_reducible refine (bulletinref15_Same.calls k1 ((rd_T24 l0 x6_1).f0) a1 true _ A5.out).mono ?_); rintro e w7 ⟨rfl, hb⟩; refine ⟨_, rfl, ?_⟩; have n0_ := Aside0.mk (Kd.R_below (by (with_reducible repeat (first | apply Kd.R_alloc | apply Kd.R_drewN | apply Kd.R_drew)); exact HO_5.out) hb); have n1_ := Aside0.mk (below_step bw hb); clear HO_5; clear HB; have HO_5 := n0_; have HB := n1_; clear n0_ n1_; (try clear hb); (try clear hb2); (try clear hk); (try clear hi)))
      go_roundg k1
      case measure => have := HK1.out; omega
      case rel => exact ⟨(x5_1), (wrap64 (x6_1 + 1)), cl, H', ⟨by have := HK1.out; omega⟩, ⟨by (with_reducible repeat (first | apply Kd.R_alloc | apply Kd.R_drewN | apply Kd.R_drew)); exact HO_5.out⟩, ⟨bw⟩⟩
     ·replace c6 := Bool.eq_false_iff.mpr c6
      subst c6
      have H1 : (if x5_1.length < 4398046511104 then (bulletinref15_Without.l0 k1 l0 a1 (x5_1 ++ [(⟨(rd_T24 l0 x6_1).f0, (rd_T24 l0 x6_1).f1⟩ : S24)]) (wrap64 (x6_1 + 1))) else (none)) = some r := by rw [if_neg (show ¬ (false = true) by decide)] at H; exact H
      clear H
      have H := H1
      clear H1
      by_cases c8 : x5_1.length < 4398046511104
      ·rw [if_pos c8] at H
       have LMc8 := Aside0.mk c8
       clear c8
       obtain ⟨y269, hy269⟩ : ∃ y_ : List (S24), y_ = (x5_1 ++ [(⟨(rd_T24 l0 x6_1).f0, (rd_T24 l0 x6_1).f1⟩ : S24)]) := ⟨_, rfl⟩
       replace H : (bulletinref15_Without.l0 k1 l0 a1 y269 (wrap64 (x6_1 + 1))) = some r := by first | (rw [hy269]; with_reducible exact H) | (have H2_ := (Option.bind_some _ _).symm.trans H; rw [hy269]; with_reducible exact H2_) | (have H2_ := (Option.bind_some _ _).symm.trans H; with_reducible exact H2_) | with_reducible exact H | (rw [hy269]; exact H) | exact H
       have Ny269 := Aside0.mk hy269
       clear hy269
       have H' := Aside0.mk H
       clear H
       have p266 : 0 ≤ (x6_1 : Int) := od
       have q266 : x6_1 < (l0.length : Int) := od
       obtain ⟨ad266, e266, hx266_0, hx266_1⟩ := at_T24 HR0.out x6_1 p266 q266
       cases e266
       replace hx266_0 := (HB.out.cell (World.block_lt_of_cell? w _ hx266_0)).trans hx266_0
       replace hx266_1 := (HB.out.cell (World.block_lt_of_cell? w _ hx266_1)).trans hx266_1
       replace p266 := eq_true p266
       replace q266 := eq_true q266
       go_wp2_with (first | ((with_reducible refine gate_callee (f := 17) rfl ?_); refine goesL_ (some 19) rfl rfl Tryd.func17 (by kernel_rfl) rfl #[.string ((rd_T24 l0 x6_1).f0), .string a1] rfl am ?_; (with_reducible refine (bulletinref15_Same.calls k1 ((rd_T24 l0 x6_1).f0) a1 false _ A5.out).mono ?_); rintro e w9 ⟨rfl, hb⟩; refine ⟨_, rfl, ?_⟩; have n0_ := Aside0.mk (Kd.R_below (by (with_reducible repeat (first | apply Kd.R_alloc | apply Kd.R_drewN | apply Kd.R_drew)); exact HO_5.out) hb); have n1_ := Aside0.mk (below_step bw hb); clear HO_5; clear HB; have HO_5 := n0_; have HB := n1_; clear n0_ n1_; (try clear hb); (try clear hb2); (try clear hk); (try clear hi); have p268 : 0 ≤ (x6_1 : Int) := od; have q268 : x6_1 < (l0.length : Int) := od; obtain ⟨ad268, e268, hx268_0, hx268_1⟩ := at_T24 HR0.out x6_1 p268 q268; obtain rfl : ad266 = ad268 := (by injection e268); replace hx268_0 := (HB.out.cell (World.block_lt_of_cell? w _ hx268_0)).trans hx268_0; replace hx268_1 := (HB.out.cell (World.block_lt_of_cell? w _ hx268_1)).trans hx268_1; replace p268 := eq_true p268; replace q268 := eq_true q268) | ((with_reducible refine gate_builtin (b := .append) (xs := #[.tmp 21, .tmp 26]) rfl ?_); at_builtin; refine Kd.R_append k24 (w0 := w) w.heap.size rfl (.tmp 21) (.tmp 26) 22 24 (.agg #[(.string ⟨#[]⟩), (.string ⟨#[]⟩)]) 32 rfl Tryd.underlying22 info24 rfl (by decide) (by omega) u5 x5_1 (⟨(rd_T24 l0 x6_1).f0, (rd_T24 l0 x6_1).f1⟩ : S24) [.string ((rd_T24 l0 x6_1).f0), .string ((rd_T24 l0 x6_1).f1)] (fun _ => True) (fun _ => False) rfl rfl ?aP (fun _ hk => hk.elim) ?aF ?aO ?aB ?aS ?aL ?_; (case aP => exact k24_mkM _ _ _ (⟨(rd_T24 l0 x6_1).f0, (rd_T24 l0 x6_1).f1⟩ : S24)); (case aB => exact bw); (case aF => exact (fun _ _ => trivial)); (case aO => exact (by (with_reducible repeat (first | apply Kd.R_alloc | apply Kd.R_drewN | apply Kd.R_drew)); exact HO_5.out)); (case aS => exact (below_size bw)); (case aL => have := LMc8.out; omega); intro v270 w10 ho hb hg hat; rw [← Ny269.out] at ho; have n0_ := Aside0.mk (hb); have n1_ := Aside0.mk (ho); clear HB; clear HO_5; have HB := n0_; have HO271 := n1_; clear n0_ n1_; clear ho hb hg hat))
       go_roundg k1
       case measure => have := HK1.out; omega
       case rel => exact ⟨(y269), (wrap64 (x6_1 + 1)), cl, H', ⟨by have := HK1.out; omega⟩, ⟨by (with_reducible repeat (first | apply Kd.R_alloc | apply Kd.R_drewN | apply Kd.R_drew)); exact HO271.out⟩, ⟨bw⟩⟩
      ·rw [if_neg c8] at H
       exact absurd H (by simp)
    ·rw [if_neg c4] at H
     exact absurd H (by simp)
   ·rw [if_neg c3] at H
    have c3b0 : decide (x6_1 < (l0.length : Int)) = false := decide_eq_false c3
    clear c3
    obtain rfl := Option.some.inj H
    go_wp2
    go_ret
    exact ⟨_, by first | rfl | (simp [errW_none, errW_some] <;> rfl) | (simp [*, errW_none, errW_some] <;> rfl), by (with_reducible repeat (first | apply Kd.R_alloc | apply Kd.R_drewN | apply Kd.R_drew)); exact HO_5.out, bw⟩

end Go.Proofs.YtoikneogdbdplaaDoor.Fn
set_option linter.unusedVariables false
namespace Go.Proofs.YtoikneogdbdplaaDoor.Fn
open Go.RowKit

def glyph_Fold.f (a0 : ByteArray) : Option ByteArray := if a0.size ≤ 35184372088832 then some (Pl.str (Pl.fold a0.data.toList)) else none

set_option maxHeartbeats 2000000 in
set_option maxRecDepth 100000 in
theorem glyph_Fold.calls (a0 : ByteArray) (r : ByteArray) (w : World) (h : glyph_Fold.f a0 = some r) :
    Calls Tryd.prog 64 #[.string a0] w fun e w' => e = .returned (.string r) ∧ Below w.heap.size w w' := by
  unfold glyph_Fold.f at h
  by_cases hs : a0.size ≤ 35184372088832
  · rw [if_pos hs] at h
    have HR := hid (Option.some.inj h)
    clear h
    go_enter Tryd.func64, Tryd.ntmps64
    go_wp2
    go_loopw [8] (fun v8 wr => ∃ k : Nat, k ≤ a0.size ∧ v8 = .int .i64 k ∧ isBd w.heap.size w.heap.size (Lib.byteCells (Pl.fold (a0.data.toList.take k))) wr ∧ Below w.heap.size w wr) (fun v8 _ => a0.size - (intOf v8).toNat)
    case atStart => exact ⟨0, Nat.zero_le _, rfl, Lib.IsBuilderF.of (Lib.fresh_isBuilder _ _ w), (Below.refl _ w).alloc (Nat.le_refl _) _⟩
    case round =>
      obtain ⟨k, hk, rfl, hI, hbw⟩ := hrel
      have hl : (Pl.fold (a0.data.toList.take k)).length ≤ k := by rw [Pl.fold_length]; exact List.length_take_le _ _
      have hBw := hbw.size
      by_cases hlt : k < a0.size
      · have hsn := hid (Pl.fold_snoc a0 k hlt)
        have hgo : ∀ c : Int, c = (Pl.foldB a0[k]).toNat → Lib.byteCells (Pl.fold (a0.data.toList.take k)) ++ [Value.int .u8 c] = Lib.byteCells (Pl.fold (a0.data.toList.take (k + 1))) := by
          rintro c rfl
          rw [hsn.out, Lib.byteCells_append]
          rfl
        have HG := hid hgo
        clear hgo
        by_cases hu : 65 ≤ (a0[k].toNat : Int) ∧ (a0[k].toNat : Int) ≤ 90
        · have hc := hid (Pl.foldB_up a0[k] hu)
          obtain ⟨hu1, hu2⟩ := hu
          go_wp2_with (go_at_call 101; refine (bd_byte w.heap.size w.heap.size _ _ _ hI (by rw [Lib.byteCells_length]; omega) hBw).mono ?_; rintro e W1 ⟨rfl, h1, b1, _⟩; rw [HG.out _ hc.out] at h1)
          go_roundw
          case rel => exact ⟨k + 1, by omega, by go_num, h1.is, hbw.trans b1⟩
          case measure => simp [intOf]; omega
        · have hc := hid (Pl.foldB_no a0[k] hu)
          by_cases hu1 : 65 ≤ (a0[k].toNat : Int)
          · have hu2 : 90 < (a0[k].toNat : Int) := by omega
            clear hu
            go_wp2_with (go_at_call 101; refine (bd_byte w.heap.size w.heap.size _ _ _ hI (by rw [Lib.byteCells_length]; omega) hBw).mono ?_; rintro e W1 ⟨rfl, h1, b1, _⟩; rw [HG.out _ hc.out] at h1)
            go_roundw
            case rel => exact ⟨k + 1, by omega, by go_num, h1.is, hbw.trans b1⟩
            case measure => simp [intOf]; omega
          · have hu2 : (a0[k].toNat : Int) < 65 := by omega
            clear hu hu1
            go_wp2_with (go_at_call 101; refine (bd_byte w.heap.size w.heap.size _ _ _ hI (by rw [Lib.byteCells_length]; omega) hBw).mono ?_; rintro e W1 ⟨rfl, h1, b1, _⟩; rw [HG.out _ hc.out] at h1)
            go_roundw
            case rel => exact ⟨k + 1, by omega, by go_num, h1.is, hbw.trans b1⟩
            case measure => simp [intOf]; omega
      · have hend := hid (show Pl.fold (a0.data.toList.take k) = Pl.fold a0.data.toList by rw [List.take_of_length_le (by rw [Pl.data_length]; omega)])
        go_wp2_with (go_at_call 79; refine (Tryd.Builder_String_any_k w.heap.size w.heap.size _ _ hI hBw).mono ?_; rintro e W1 ⟨rfl, _, b1, _⟩)
        go_ret
        exact ⟨by rw [← HR.out, ← hend.out]; rfl, hbw.trans b1⟩
  · rw [if_neg hs] at h
    exact absurd h (by simp)
end Go.Proofs.YtoikneogdbdplaaDoor.Fn
namespace Go.Proofs.YtoikneogdbdplaaDoor.Fn
open Go.RowKit Go.Proofs.YtoikneogdbdplaaDoorW.PrintWords Go.Proofs.YtoikneogdbdplaaDoorW.PrintLast Go.Proofs.YtoikneogdbdplaaDoorW.PrintMore
attribute [local go_sem] max2_int min2_int max_two min_two max_three min_three max_four min_four
set_option linter.unusedVariables false
set_option linter.unusedSimpArgs false

/-! ### head_same: function 56 -/
def head_same.f (a0 : ByteArray) (a1 : ByteArray) : Option (Bool) := (glyph_Fold.f a0).bind fun t184 => ((glyph_Fold.f a1).bind fun t185 => (some (t184.toList == t185.toList)))
set_option maxHeartbeats 8000000 in
set_option maxRecDepth 100000 in
theorem head_same.calls (a0 : ByteArray) (a1 : ByteArray) (r : Bool) (w : World) (h : head_same.f a0 a1 = some r) :
  Calls Tryd.prog 56 #[.string a0, .string a1] w fun e w' => e = .returned (.bool r) ∧ Below w.heap.size w w' := by
 have HB := Aside0.mk (Below.refl w.heap.size w)
 have H : ((glyph_Fold.f a0).bind fun t184 => ((glyph_Fold.f a1).bind fun t185 => (some (t184.toList == t185.toList)))) = some r := h
 clear h
 replace H := Option.bind_eq_some_iff.mp H
 obtain ⟨t184, A30, H⟩ := H
 replace H : ((glyph_Fold.f a1).bind fun t185 => (some (t184.toList == t185.toList))) = some r := H
 have A3 := Aside0.mk A30
 clear A30
 replace H := Option.bind_eq_some_iff.mp H
 obtain ⟨t185, A40, H⟩ := H
 replace H : (some (t184.toList == t185.toList)) = some r := H
 have A4 := Aside0.mk A40
 clear A40
 obtain rfl := Option.some.inj H
 go_enter Tryd.func56, Tryd.ntmps56
 go_wp2_with (first | ((with_reducible refine gate_callee (f := 64) rfl ?_); refine goesL_ (some 6) rfl rfl Tryd.func64 (by kernel_rfl) rfl #[.string a0] rfl am ?_; (with_reducible refine (glyph_Fold.calls a0 t184 _ A3.out).mono ?_); rintro e w5 ⟨rfl, hb⟩; refine ⟨_, rfl, ?_⟩; have n0_ := Aside0.mk (below_step bw hb); clear HB; have HB := n0_; clear n0_; (try clear hb); (try clear hb2); (try clear hk); (try clear hi)) | ((with_reducible refine gate_callee (f := 64) rfl ?_); refine goesL_ (some 8) rfl rfl Tryd.func64 (by kernel_rfl) rfl #[.string a1] rfl am ?_; (with_reducible refine (glyph_Fold.calls a1 t185 _ A4.out).mono ?_); rintro e w6 ⟨rfl, hb⟩; refine ⟨_, rfl, ?_⟩; have n0_ := Aside0.mk (below_step bw hb); clear HB; have HB := n0_; clear n0_; (try clear hb); (try clear hb2); (try clear hk); (try clear hi)))
 go_ret
 exact ⟨by first | rfl | (simp [errW_none, errW_some] <;> rfl) | (simp [*, errW_none, errW_some] <;> rfl), bw⟩

end Go.Proofs.YtoikneogdbdplaaDoor.Fn
namespace Go.Proofs.YtoikneogdbdplaaDoor.Fn
open Go.RowKit Go.Proofs.YtoikneogdbdplaaDoorW.PrintWords Go.Proofs.YtoikneogdbdplaaDoorW.PrintLast Go.Proofs.YtoikneogdbdplaaDoorW.PrintMore
attribute [local go_sem] max2_int min2_int max_two min_two max_three min_three max_four min_four
set_option linter.unusedVariables false
set_option linter.unusedSimpArgs false

/-! ### head_All: function 16 -/
def head_All.l0 : Nat → ByteArray → List ByteArray → List (S30) → Int → Int → Option (List ByteArray)
 | 0, _, _, _, _, _ => none
 | k + 1, x1, x5, x8, x9, x10 => if x10 < x9 then (if 0 ≤ x10 then (if x10 < (x8.length : Int) then ((head_same.f ((rd_T30 x8 x10).f0) x1).bind fun t188 => (if t188 = true then (if x5.length < 8796093022208 then (head_All.l0 k x1 (x5 ++ [(rd_T30 x8 x10).f1]) x8 x9 (wrap64 (x10 + 1))) else (none)) else (head_All.l0 k x1 x5 x8 x9 (wrap64 (x10 + 1))))) else (none)) else (none)) else (some x5)
def head_All.f (k : Nat) (l0 : List (S30)) (a1 : ByteArray) : Option (List ByteArray) := head_All.l0 k a1 ([] : List ByteArray) l0 (l0.length : Int) 0
set_option maxHeartbeats 8000000 in
set_option maxRecDepth 100000 in
theorem head_All.calls (k : Nat) (A0 : Option Addr) (c0 : Nat) (l0 : List (S30)) (a1 : ByteArray) (r : List ByteArray) (w : World) (hr0 : Kd.C k30 w A0 l0.length l0) (hc0 : l0.length ≤ c0) (h : head_All.f k l0 a1 = some r) :
  Calls Tryd.prog 16 #[.slice A0 l0.length c0, .string a1] w fun e w' => ∃ v0_ : Value, e = .returned (v0_) ∧ Kd.R Kd.string 9 w' w.heap.size (fun _ => True) v0_ r ∧ Below w.heap.size w w' := by
 have hu30 := Tryd.underlying30
 have HR0 := Aside0.mk hr0
 have HC0 := Aside0.mk hc0
 clear hr0 hc0
 have HB := Aside0.mk (Below.refl w.heap.size w)
 have H : (head_All.l0 k a1 ([] : List ByteArray) l0 (l0.length : Int) 0) = some r := h
 clear h
 have H' := Aside0.mk H
 clear H
 go_enter Tryd.func16, Tryd.ntmps16
 go_wp2
 go_loopg [5, 10] k (fun kq v5 v10 w' => ∃ (x5_1 : List ByteArray) (x10_1 : Int), v10 = .int .i64 x10_1 ∧ Aside0 (head_All.l0 kq a1 x5_1 l0 (l0.length : Int) x10_1 = some r) ∧ Aside0 (kq ≤ k) ∧ Aside0 (Kd.R Kd.string 9 w' w.heap.size (fun _ => True) v5 x5_1) ∧ Aside0 (Below w.heap.size w w'))
 case atStart => exact ⟨(([] : List ByteArray)), (0), cl, H', ⟨Nat.le_refl _⟩, ⟨by first | exact Kd.R_nil _ _ _ _ _ | exact Kd.N_nil _ _ _ _ _ | exact Kd.V_nil _ _ _ _ _ | exact Kd.Q_nil _ _ _ _ _ | exact Kd.S_nil _ _ _ _ _⟩, ⟨bw⟩⟩
 case round =>
  clear H'
  try clear c1
  try clear p2
  obtain ⟨x5_1, x10_1, rfl, HA, HK1, HO_5, HB⟩ := hrel
  cases gk with
  | zero => exact absurd HA.out (by simp [head_All.l0])
  | succ k1 =>
   have H := HA.out
   clear HA
   simp only [head_All.l0] at H
   by_cases c3 : x10_1 < (l0.length : Int)
   ·rw [if_pos c3] at H
    have c3b0 : decide (x10_1 < (l0.length : Int)) = true := decide_eq_true c3
    clear c3
    by_cases c4 : 0 ≤ x10_1
    ·rw [if_pos c4] at H
     have c4b0 : decide (0 ≤ x10_1) = true := decide_eq_true c4
     clear c4
     by_cases c5 : x10_1 < (l0.length : Int)
     ·rw [if_pos c5] at H
      have c5b0 : decide (x10_1 < (l0.length : Int)) = true := decide_eq_true c5
      clear c5
      replace H := Option.bind_eq_some_iff.mp H
      obtain ⟨t188, A60, H⟩ := H
      replace H : (if t188 = true then (if x5_1.length < 8796093022208 then (head_All.l0 k1 a1 (x5_1 ++ [(rd_T30 l0 x10_1).f1]) l0 (l0.length : Int) (wrap64 (x10_1 + 1))) else (none)) else (head_All.l0 k1 a1 x5_1 l0 (l0.length : Int) (wrap64 (x10_1 + 1)))) = some r := H
      have A6 := Aside0.mk A60
      clear A60
      by_cases c7 : t188 = true
      ·subst c7
       have H1 : (if x5_1.length < 8796093022208 then (head_All.l0 k1 a1 (x5_1 ++ [(rd_T30 l0 x10_1).f1]) l0 (l0.length : Int) (wrap64 (x10_1 + 1))) else (none)) = some r := by rw [if_pos rfl] at H; exact H
       clear H
       have H := H1
       clear H1
       by_cases c8 : x5_1.length < 8796093022208
       ·rw [if_pos c8] at H
        have LMc8 := Aside0.mk c8
        clear c8
        obtain ⟨y189, hy189⟩ : ∃ y_ : List ByteArray, y_ = (x5_1 ++ [(rd_T30 l0 x10_1).f1]) := ⟨_, rfl⟩
        replace H : (head_All.l0 k1 a1 y189 l0 (l0.length : Int) (wrap64 (x10_1 + 1))) = some r := by first | (rw [hy189]; with_reducible exact H) | (have H2_ := (Option.bind_some _ _).symm.trans H; rw [hy189]; with_reducible exact H2_) | (have H2_ := (Option.bind_some _ _).symm.trans H; with_reducible exact H2_) | with_reducible exact H | (rw [hy189]; exact H) | exact H
        have Ny189 := Aside0.mk hy189
        clear hy189
        have H' := Aside0.mk H
        clear H
        have p186 : 0 ≤ (x10_1 : Int) := od
        have q186 : x10_1 < (l0.length : Int) := od
        obtain ⟨ad186, e186, hx186_0, hx186_1⟩ := at_T30 HR0.out x10_1 p186 q186
        cases e186
        replace hx186_0 := (HB.out.cell (World.block_lt_of_cell? w _ hx186_0)).trans hx186_0
        replace hx186_1 := (HB.out.cell (World.block_lt_of_cell? w _ hx186_1)).trans hx186_1
        replace p186 := eq_true p186
        replace q186 := eq_true q186
        go_wp2_with (first | ((with_reducible refine gate_dst (N := 7) rfl ?_); refine box_event ?hg (N := 7) ?hd (cs := #[.string (⟨#[]⟩ : ByteArray), .string (⟨#[]⟩ : ByteArray)]) (t := 30) ?hr ?_; (case hd => rfl); (case hg => rfl); (case hr => first | (go_simp; done) | (go_simp; rfl)); intro gb187 hg w9 hbox hb; have n0_ := Aside0.mk (Kd.R_below (by (with_reducible repeat (first | apply Kd.R_alloc | apply Kd.R_drewN | apply Kd.R_drew)); exact HO_5.out) hb); have n1_ := Aside0.mk (below_step bw hb); have n2_ := Aside0.mk (hbox); have n3_ := Aside0.mk ((by rw [hg]; exact (below_size bw) : w.heap.size ≤ gb187)); have n4_ := Aside0.mk ((by rw [hg]; exact (below_size bw) : w.heap.size ≤ gb187)); clear HO_5; clear HB; have HO_5 := n0_; have HB := n1_; have BK187 := n2_; have GW187 := n3_; have GE187 := n4_; clear n0_ n1_ n2_ n3_ n4_; clear hb hbox hg; have hcz10_0 : w9.cell? ⟨gb187, 0, none⟩ = some (.string (⟨#[]⟩ : ByteArray)) := (blk_cell BK187.out 0).trans rfl; have hcz10_1 : w9.cell? ⟨gb187, 1, none⟩ = some (.string (⟨#[]⟩ : ByteArray)) := (blk_cell BK187.out 1).trans rfl; have hfz10_0 := blk_frozen BK187.out 0; have hfz10_1 := blk_frozen BK187.out 1) | ((with_reducible refine gate_callee (f := 56) rfl ?_); refine goesL_ (some 17) rfl rfl Tryd.func56 (by kernel_rfl) rfl #[.string ((rd_T30 l0 x10_1).f0), .string a1] rfl am ?_; (with_reducible refine (head_same.calls ((rd_T30 l0 x10_1).f0) a1 true _ A6.out).mono ?_); rintro e w11 ⟨rfl, hb⟩; refine ⟨_, rfl, ?_⟩; have n0_ := Aside0.mk (Kd.R_below (by (with_reducible repeat (first | apply Kd.R_alloc | apply Kd.R_drewN | apply Kd.R_drew)); exact (Kd.R_mono (Kd.R_far (p := ⟨gb187, 1, none⟩) (Kd.R_far (p := ⟨gb187, 0, none⟩) (Kd.R_types HO_5.out BK187.out (by decide)) (fun _ hk => hk.2) (.string ((rd_T30 l0 x10_1).f0))) (fun _ hk => hk.2) (.string ((rd_T30 l0 x10_1).f1))) (fun _ h_ => h_.1))) hb); have n1_ := Aside0.mk (blk_below (g := gb187) (o := .cells #[.string ((rd_T30 l0 x10_1).f0), .string ((rd_T30 l0 x10_1).f1)] 30 (0, 0)) (by (with_reducible repeat (first | refine blk_drewN ?_ _ | refine blk_drew ?_ | refine blk_alloc ?_ _)); refine blk_put (cs := #[.string ((rd_T30 l0 x10_1).f0), .string (⟨#[]⟩ : ByteArray)]) ?_ 1 _ rfl; (with_reducible repeat (first | refine blk_drewN ?_ _ | refine blk_drew ?_ | refine blk_alloc ?_ _)); refine blk_put (cs := #[.string (⟨#[]⟩ : ByteArray), .string (⟨#[]⟩ : ByteArray)]) ?_ 0 _ rfl; (with_reducible repeat (first | refine blk_drewN ?_ _ | refine blk_drew ?_ | refine blk_alloc ?_ _)); exact BK187.out) hb); have n2_ := Aside0.mk (below_step bwS hb); clear HO_5; clear BK187; clear HB; have HO_5 := n0_; have BK187 := n1_; have HB := n2_; clear n0_ n1_ n2_; (try clear hb); (try clear hb2); (try clear hk); (try clear hi); have hcz12_0 : w11.cell? ⟨gb187, 0, none⟩ = some (.string ((rd_T30 l0 x10_1).f0)) := (blk_cell BK187.out 0).trans rfl; have hcz12_1 : w11.cell? ⟨gb187, 1, none⟩ = some (.string ((rd_T30 l0 x10_1).f1)) := (blk_cell BK187.out 1).trans rfl; have hfz12_0 := blk_frozen BK187.out 0; have hfz12_1 := blk_frozen BK187.out 1) | ((with_reducible refine gate_builtin (b := .append) (xs := #[.tmp 18, .tmp 21]) rfl ?_); at_builtin; refine Kd.R_append Kd.string (w0 := w) w.heap.size rfl (.tmp 18) (.tmp 21) 32 9 (.string ⟨#[]⟩) 16 rfl Tryd.underlying32 info9 rfl (by decide) (by omega) u5 x5_1 ((rd_T30 l0 x10_1).f1) [.string ((rd_T30 l0 x10_1).f1)] (fun _ => True) (fun _ => False) rfl rfl ?aP (fun _ hk => hk.elim) ?aF ?aO ?aB ?aS ?aL ?_; (case aP => exact rfl); (case aB => exact bwS); (case aF => exact (fun _ _ => trivial)); (case aO => exact (by (with_reducible repeat (first | apply Kd.R_alloc | apply Kd.R_drewN | apply Kd.R_drew)); exact HO_5.out)); (case aS => exact (below_size bwS)); (case aL => have := LMc8.out; omega); intro v190 w13 ho hb hg hat; rw [← Ny189.out] at ho; have n0_ := Aside0.mk (blk_grown (g := gb187) (o := .cells #[.string ((rd_T30 l0 x10_1).f0), .string ((rd_T30 l0 x10_1).f1)] 30 (0, 0)) bk hg (Kd.R_ne HO_5.out BK187.out (by decide))); have n1_ := Aside0.mk (hb); have n2_ := Aside0.mk (ho); clear BK187; clear HB; clear HO_5; have BK187 := n0_; have HB := n1_; have HO191 := n2_; clear n0_ n1_ n2_; clear ho hb hg hat))
        go_roundg k1
        case measure => have := HK1.out; omega
        case rel => exact ⟨(y189), (wrap64 (x10_1 + 1)), cl, H', ⟨by have := HK1.out; omega⟩, ⟨by (with_reducible repeat (first | apply Kd.R_alloc | apply Kd.R_drewN | apply Kd.R_drew)); exact HO191.out⟩, ⟨bwS⟩⟩
       ·rw [if_neg c8] at H
        exact absurd H (by simp)
      ·replace c7 := Bool.eq_false_iff.mpr c7
       subst c7
       have H1 : (head_All.l0 k1 a1 x5_1 l0 (l0.length : Int) (wrap64 (x10_1 + 1))) = some r := by rw [if_neg (show ¬ (false = true) by decide)] at H; exact H
       clear H
       have H := H1
       clear H1
       have H' := Aside0.mk H
       clear H
       have p186 : 0 ≤ (x10_1 : Int) := od
       have q186 : x10_1 < (l0.length : Int) := od
       obtain ⟨ad186, e186, hx186_0, hx186_1⟩ := at_T30 HR0.out x10_1 p186 q186
       cases e186
       replace hx186_0 := (HB.out.cell (World.block_lt_of_cell? w _ hx186_0)).trans hx186_0
       replace hx186_1 := (HB.out.cell (World.block_lt_of_cell? w _ hx186_1)).trans hx186_1
       replace p186 := eq_true p186
       replace q186 := eq_true q186
       go_wp2_with (first | ((with_reducible refine gate_dst (N := 7) rfl ?_); refine box_event ?hg (N := 7) ?hd (cs := #[.string (⟨#[]⟩ : ByteArray), .string (⟨#[]⟩ : ByteArray)]) (t := 30) ?hr ?_; (case hd => rfl); (case hg => rfl); (case hr => first | (go_simp; done) | (go_simp; rfl)); intro gb187 hg w14 hbox hb; have n0_ := Aside0.mk (Kd.R_below (by (with_reducible repeat (first | apply Kd.R_alloc | apply Kd.R_drewN | apply Kd.R_drew)); exact HO_5.out) hb); have n1_ := Aside0.mk (below_step bw hb); have n2_ := Aside0.mk (hbox); have n3_ := Aside0.mk ((by rw [hg]; exact (below_size bw) : w.heap.size ≤ gb187)); have n4_ := Aside0.mk ((by rw [hg]; exact (below_size bw) : w.heap.size ≤ gb187)); clear HO_5; clear HB; have HO_5 := n0_; have HB := n1_; have BK187 := n2_; have GW187 := n3_; have GE187 := n4_; clear n0_ n1_ n2_ n3_ n4_; clear hb hbox hg; have hcz15_0 : w14.cell? ⟨gb187, 0, none⟩ = some (.string (⟨#[]⟩ : ByteArray)) := (blk_cell BK187.out 0).trans rfl; have hcz15_1 : w14.cell? ⟨gb187, 1, none⟩ = some (.string (⟨#[]⟩ : ByteArray)) := (blk_cell BK187.out 1).trans rfl; have hfz15_0 := blk_frozen BK187.out 0; have hfz15_1 := blk_frozen BK187.out 1) | ((with_reducible refine gate_callee (f := 56) rfl ?_); refine goesL_ (some 17) rfl rfl Tryd.func56 (by kernel_rfl) rfl #[.string ((rd_T30 l0 x10_1).f0), .string a1] rfl am ?_; (with_reducible refine (head_same.calls ((rd_T30 l0 x10_1).f0) a1 false _ A6.out).mono ?_); rintro e w16 ⟨rfl, hb⟩; refine ⟨_, rfl, ?_⟩; have n0_ := Aside0.mk (Kd.R_below (by (with_reducible repeat (first | apply Kd.R_alloc | apply Kd.R_drewN | apply Kd.R_drew)); exact (Kd.R_mono (Kd.R_far (p := ⟨gb187, 1, none⟩) (Kd.R_far (p := ⟨gb187, 0, none⟩) (Kd.R_types HO_5.out BK187.out (by decide)) (fun _ hk => hk.2) (.string ((rd_T30 l0 x10_1).f0))) (fun _ hk => hk.2) (.string ((rd_T30 l0 x10_1).f1))) (fun _ h_ => h_.1))) hb); have n1_ := Aside0.mk (blk_below (g := gb187) (o := .cells #[.string ((rd_T30 l0 x10_1).f0), .string ((rd_T30 l0 x10_1).f1)] 30 (0, 0)) (by (with_reducible repeat (first | refine blk_drewN ?_ _ | refine blk_drew ?_ | refine blk_alloc ?_ _)); refine blk_put (cs := #[.string ((rd_T30 l0 x10_1).f0), .string (⟨#[]⟩ : ByteArray)]) ?_ 1 _ rfl; (with_reducible repeat (first | refine blk_drewN ?_ _ | refine blk_drew ?_ | refine blk_alloc ?_ _)); refine blk_put (cs := #[.string (⟨#[]⟩ : ByteArray), .string (⟨#[]⟩ : ByteArray)]) ?_ 0 _ rfl; (with_reducible repeat (first | refine blk_drewN ?_ _ | refine blk_drew ?_ | refine blk_alloc ?_ _)); exact BK187.out) hb); have n2_ := Aside0.mk (below_step bwS hb); clear HO_5; clear BK187; clear HB; have HO_5 := n0_; have BK187 := n1_; have HB := n2_; clear n0_ n1_ n2_; (try clear hb); (try clear hb2); (try clear hk); (try clear hi)))
       go_roundg k1
       case measure => have := HK1.out; omega
       case rel => exact ⟨(x5_1), (wrap64 (x10_1 + 1)), cl, H', ⟨by have := HK1.out; omega⟩, ⟨by (with_reducible repeat (first | apply Kd.R_alloc | apply Kd.R_drewN | apply Kd.R_drew)); exact HO_5.out⟩, ⟨bwS⟩⟩
     ·rw [if_neg c5] at H
      exact absurd H (by simp)
    ·rw [if_neg c4] at H
     exact absurd H (by simp)
   ·rw [if_neg c3] at H
    have c3b0 : decide (x10_1 < (l0.length : Int)) = false := decide_eq_false c3
    clear c3
    obtain rfl := Option.some.inj H
    go_wp2
    go_ret
    exact ⟨_, by first | rfl | (simp [errW_none, errW_some] <;> rfl) | (simp [*, errW_none, errW_some] <;> rfl), by (with_reducible repeat (first | apply Kd.R_alloc | apply Kd.R_drewN | apply Kd.R_drew)); exact HO_5.out, bw⟩

end Go.Proofs.YtoikneogdbdplaaDoor.Fn
namespace Go.Proofs.YtoikneogdbdplaaDoor.Fn
open Go.RowKit Go.Proofs.YtoikneogdbdplaaDoorW.PrintWords Go.Proofs.YtoikneogdbdplaaDoorW.PrintLast Go.Proofs.YtoikneogdbdplaaDoorW.PrintMore
attribute [local go_sem] max2_int min2_int max_two min_two max_three min_three max_four min_four
set_option linter.unusedVariables false
set_option linter.unusedSimpArgs false

/-! ### head_Get: function 18 -/
def head_Get.l0 : Nat → ByteArray → List (S30) → Int → Int → Option (ByteArray × Bool)
 | 0, _, _, _, _ => none
 | k + 1, x1, x8, x9, x10 => if x10 < x9 then (if 0 ≤ x10 then (if x10 < (x8.length : Int) then ((head_same.f ((rd_T30 x8 x10).f0) x1).bind fun t232 => (if t232 = true then (some ((rd_T30 x8 x10).f1, true)) else (head_Get.l0 k x1 x8 x9 (wrap64 (x10 + 1))))) else (none)) else (none)) else (some ((⟨#[]⟩ : ByteArray), false))
def head_Get.f (k : Nat) (l0 : List (S30)) (a1 : ByteArray) : Option (ByteArray × Bool) := head_Get.l0 k a1 l0 (l0.length : Int) 0
set_option maxHeartbeats 8000000 in
set_option maxRecDepth 100000 in
theorem head_Get.calls (k : Nat) (A0 : Option Addr) (c0 : Nat) (l0 : List (S30)) (a1 : ByteArray) (r1 : ByteArray) (r2 : Bool) (w : World) (hr0 : Kd.C k30 w A0 l0.length l0) (hc0 : l0.length ≤ c0) (h : head_Get.f k l0 a1 = some (r1, r2)) :
  Calls Tryd.prog 18 #[.slice A0 l0.length c0, .string a1] w fun e w' => e = .returned (.tuple #[.string r1, .bool r2]) ∧ Below w.heap.size w w' := by
 have hu30 := Tryd.underlying30
 have HR0 := Aside0.mk hr0
 have HC0 := Aside0.mk hc0
 clear hr0 hc0
 have HB := Aside0.mk (Below.refl w.heap.size w)
 have H : (head_Get.l0 k a1 l0 (l0.length : Int) 0) = some (r1, r2) := h
 clear h
 have H' := Aside0.mk H
 clear H
 go_enter Tryd.func18, Tryd.ntmps18
 go_wp2
 go_loopg [10] k (fun kq v10 w' => ∃ (x10_1 : Int), v10 = .int .i64 x10_1 ∧ Aside0 (head_Get.l0 kq a1 l0 (l0.length : Int) x10_1 = some (r1, r2)) ∧ Aside0 (kq ≤ k) ∧ Aside0 (Below w.heap.size w w'))
 case atStart => exact ⟨(0), cl, H', ⟨Nat.le_refl _⟩, ⟨bw⟩⟩
 case round =>
  clear H'
  try clear c1
  try clear p2
  obtain ⟨x10_1, rfl, HA, HK1, HB⟩ := hrel
  cases gk with
  | zero => exact absurd HA.out (by simp [head_Get.l0])
  | succ k1 =>
   have H := HA.out
   clear HA
   simp only [head_Get.l0] at H
   by_cases c3 : x10_1 < (l0.length : Int)
   ·rw [if_pos c3] at H
    have c3b0 : decide (x10_1 < (l0.length : Int)) = true := decide_eq_true c3
    clear c3
    by_cases c4 : 0 ≤ x10_1
    ·rw [if_pos c4] at H
     have c4b0 : decide (0 ≤ x10_1) = true := decide_eq_true c4
     clear c4
     by_cases c5 : x10_1 < (l0.length : Int)
     ·rw [if_pos c5] at H
      have c5b0 : decide (x10_1 < (l0.length : Int)) = true := decide_eq_true c5
      clear c5
      replace H := Option.bind_eq_some_iff.mp H
      obtain ⟨t232, A60, H⟩ := H
      replace H : (if t232 = true then (some ((rd_T30 l0 x10_1).f1, true)) else (head_Get.l0 k1 a1 l0 (l0.length : Int) (wrap64 (x10_1 + 1)))) = some (r1, r2) := H
      have A6 := Aside0.mk A60
      clear A60
      by_cases c7 : t232 = true
      ·subst c7
       have H1 : (some ((rd_T30 l0 x10_1).f1, true)) = some (r1, r2) := by rw [if_pos rfl] at H; exact H
       clear H
       have H := H1
       clear H1
       simp only [Option.some.injEq, Prod.mk.injEq] at H
       obtain ⟨rfl, rfl⟩ := H
       have p230 : 0 ≤ (x10_1 : Int) := od
       have q230 : x10_1 < (l0.length : Int) := od
       obtain ⟨ad230, e230, hx230_0, hx230_1⟩ := at_T30 HR0.out x10_1 p230 q230
       cases e230
       replace hx230_0 := (HB.out.cell (World.block_lt_of_cell? w _ hx230_0)).trans hx230_0
       replace hx230_1 := (HB.out.cell (World.block_lt_of_cell? w _ hx230_1)).trans hx230_1
       replace p230 := eq_true p230
       replace q230 := eq_true q230
       go_wp2_with (first | ((with_reducible refine gate_dst (N := 7) rfl ?_); refine box_event ?hg (N := 7) ?hd (cs := #[.string (⟨#[]⟩ : ByteArray), .string (⟨#[]⟩ : ByteArray)]) (t := 30) ?hr ?_; (case hd => rfl); (case hg => rfl); (case hr => first | (go_simp; done) | (go_simp; rfl)); intro gb231 hg w8 hbox hb; have n0_ := Aside0.mk (below_step bw hb); have n1_ := Aside0.mk (hbox); have n2_ := Aside0.mk ((by rw [hg]; exact (below_size bw) : w.heap.size ≤ gb231)); have n3_ := Aside0.mk ((by rw [hg]; exact (below_size bw) : w.heap.size ≤ gb231)); clear HB; have HB := n0_; have BK231 := n1_; have GW231 := n2_; have GE231 := n3_; clear n0_ n1_ n2_ n3_; clear hb hbox hg; have hcz9_0 : w8.cell? ⟨gb231, 0, none⟩ = some (.string (⟨#[]⟩ : ByteArray)) := (blk_cell BK231.out 0).trans rfl; have hcz9_1 : w8.cell? ⟨gb231, 1, none⟩ = some (.string (⟨#[]⟩ : ByteArray)) := (blk_cell BK231.out 1).trans rfl; have hfz9_0 := blk_frozen BK231.out 0; have hfz9_1 := blk_frozen BK231.out 1) | ((with_reducible refine gate_callee (f := 56) rfl ?_); refine goesL_ (some 17) rfl rfl Tryd.func56 (by kernel_rfl) rfl #[.string ((rd_T30 l0 x10_1).f0), .string a1] rfl am ?_; (with_reducible refine (head_same.calls ((rd_T30 l0 x10_1).f0) a1 true _ A6.out).mono ?_); rintro e w10 ⟨rfl, hb⟩; refine ⟨_, rfl, ?_⟩; have n0_ := Aside0.mk (blk_below (g := gb231) (o := .cells #[.string ((rd_T30 l0 x10_1).f0), .string ((rd_T30 l0 x10_1).f1)] 30 (0, 0)) (by (with_reducible repeat (first | refine blk_drewN ?_ _ | refine blk_drew ?_ | refine blk_alloc ?_ _)); refine blk_put (cs := #[.string ((rd_T30 l0 x10_1).f0), .string (⟨#[]⟩ : ByteArray)]) ?_ 1 _ rfl; (with_reducible repeat (first | refine blk_drewN ?_ _ | refine blk_drew ?_ | refine blk_alloc ?_ _)); refine blk_put (cs := #[.string (⟨#[]⟩ : ByteArray), .string (⟨#[]⟩ : ByteArray)]) ?_ 0 _ rfl; (with_reducible repeat (first | refine blk_drewN ?_ _ | refine blk_drew ?_ | refine blk_alloc ?_ _)); exact BK231.out) hb); have n1_ := Aside0.mk (below_step bwS hb); clear BK231; clear HB; have BK231 := n0_; have HB := n1_; clear n0_ n1_; (try clear hb); (try clear hb2); (try clear hk); (try clear hi); have hcz11_0 : w10.cell? ⟨gb231, 0, none⟩ = some (.string ((rd_T30 l0 x10_1).f0)) := (blk_cell BK231.out 0).trans rfl; have hcz11_1 : w10.cell? ⟨gb231, 1, none⟩ = some (.string ((rd_T30 l0 x10_1).f1)) := (blk_cell BK231.out 1).trans rfl; have hfz11_0 := blk_frozen BK231.out 0; have hfz11_1 := blk_frozen BK231.out 1))
       go_ret2
       exact ⟨by first | rfl | (simp [errW_none, errW_some] <;> rfl) | (simp [*, errW_none, errW_some] <;> rfl), bwS⟩
      ·replace c7 := Bool.eq_false_iff.mpr c7
       subst c7
       have H1 : (head_Get.l0 k1 a1 l0 (l0.length : Int) (wrap64 (x10_1 + 1))) = some (r1, r2) := by rw [if_neg (show ¬ (false = true) by decide)] at H; exact H
       clear H
       have H := H1
       clear H1
       have H' := Aside0.mk H
       clear H
       have p230 : 0 ≤ (x10_1 : Int) := od
       have q230 : x10_1 < (l0.length : Int) := od
       obtain ⟨ad230, e230, hx230_0, hx230_1⟩ := at_T30 HR0.out x10_1 p230 q230
       cases e230
       replace hx230_0 := (HB.out.cell (World.block_lt_of_cell? w _ hx230_0)).trans hx230_0
       replace hx230_1 := (HB.out.cell (World.block_lt_of_cell? w _ hx230_1)).trans hx230_1
       replace p230 := eq_true p230
       replace q230 := eq_true q230
       go_wp2_with (first | ((with_reducible refine gate_dst (N := 7) rfl ?_); refine box_event ?hg (N := 7) ?hd (cs := #[.string (⟨#[]⟩ : ByteArray), .string (⟨#[]⟩ : ByteArray)]) (t := 30) ?hr ?_; (case hd => rfl); (case hg => rfl); (case hr => first | (go_simp; done) | (go_simp; rfl)); intro gb231 hg w12 hbox hb; have n0_ := Aside0.mk (below_step bw hb); have n1_ := Aside0.mk (hbox); have n2_ := Aside0.mk ((by rw [hg]; exact (below_size bw) : w.heap.size ≤ gb231)); have n3_ := Aside0.mk ((by rw [hg]; exact (below_size bw) : w.heap.size ≤ gb231)); clear HB; have HB := n0_; have BK231 := n1_; have GW231 := n2_; have GE231 := n3_; clear n0_ n1_ n2_ n3_; clear hb hbox hg; have hcz13_0 : w12.cell? ⟨gb231, 0, none⟩ = some (.string (⟨#[]⟩ : ByteArray)) := (blk_cell BK231.out 0).trans rfl; have hcz13_1 : w12.cell? ⟨gb231, 1, none⟩ = some (.string (⟨#[]⟩ : ByteArray)) := (blk_cell BK231.out 1).trans rfl; have hfz13_0 := blk_frozen BK231.out 0; have hfz13_1 := blk_frozen BK231.out 1) | ((with_reducible refine gate_callee (f := 56) rfl ?_); refine goesL_ (some 17) rfl rfl Tryd.func56 (by kernel_rfl) rfl #[.string ((rd_T30 l0 x10_1).f0), .string a1] rfl am ?_; (with_reducible refine (head_same.calls ((rd_T30 l0 x10_1).f0) a1 false _ A6.out).mono ?_); rintro e w14 ⟨rfl, hb⟩; refine ⟨_, rfl, ?_⟩; have n0_ := Aside0.mk (blk_below (g := gb231) (o := .cells #[.string ((rd_T30 l0 x10_1).f0), .string ((rd_T30 l0 x10_1).f1)] 30 (0, 0)) (by (with_reducible repeat (first | refine blk_drewN ?_ _ | refine blk_drew ?_ | refine blk_alloc ?_ _)); refine blk_put (cs := #[.string ((rd_T30 l0 x10_1).f0), .string (⟨#[]⟩ : ByteArray)]) ?_ 1 _ rfl; (with_reducible repeat (first | refine blk_drewN ?_ _ | refine blk_drew ?_ | refine blk_alloc ?_ _)); refine blk_put (cs := #[.string (⟨#[]⟩ : ByteArray), .string (⟨#[]⟩ : ByteArray)]) ?_ 0 _ rfl; (with_reducible repeat (first | refine blk_drewN ?_ _ | refine blk_drew ?_ | refine blk_alloc ?_ _)); exact BK231.out) hb); have n1_ := Aside0.mk (below_step bwS hb); clear BK231; clear HB; have BK231 := n0_; have HB := n1_; clear n0_ n1_; (try clear hb); (try clear hb2); (try clear hk); (try clear hi)))
       go_roundg k1
       case measure => have := HK1.out; omega
       case rel => exact ⟨(wrap64 (x10_1 + 1)), cl, H', ⟨by have := HK1.out; omega⟩, ⟨bwS⟩⟩
     ·rw [if_neg c5] at H
      exact absurd H (by simp)
    ·rw [if_neg c4] at H
     exact absurd H (by simp)
   ·rw [if_neg c3] at H
    have c3b0 : decide (x10_1 < (l0.length : Int)) = false := decide_eq_false c3
    clear c3
    simp only [Option.some.injEq, Prod.mk.injEq] at H
    obtain ⟨rfl, rfl⟩ := H
    go_wp2
    go_ret2
    exact ⟨by first | rfl | (simp [errW_none, errW_some] <;> rfl) | (simp [*, errW_none, errW_some] <;> rfl), bw⟩

end Go.Proofs.YtoikneogdbdplaaDoor.Fn
set_option linter.unusedVariables false
set_option linter.unusedSimpArgs false
namespace Go.Proofs.YtoikneogdbdplaaDoor.Pl
open Go.Proofs.YtoikneogdbdplaaDoorW.PrintWords
variable {α : Type}
/-! Layer 15: are two names the same? -/
def sameN (a b : ByteArray) : Bool := (str (fold (bs a))).toList == (str (fold (bs b))).toList
def firstI (p : α → Bool) : List α → Nat
  | [] => 0
  | x :: l => if p x = true then 0 else firstI p l + 1
theorem firstI_at (p : α → Bool) : ∀ (l : List α) (i : Nat) (h : i < l.length), (∀ j (hj : j < i), p (l[j]'(Nat.lt_trans hj h)) = false) → (p l[i] = true → firstI p l = i) ∧ (p l[i] = false → i < firstI p l)
  | x :: l, 0, h, ha => by
    refine ⟨fun hp => ?_, fun hp => ?_⟩
    · rw [firstI, if_pos (show p x = true from hp)]
    · rw [firstI, if_neg (by rw [show p x = false from hp]; decide)]
      omega
  | x :: l, i + 1, h, ha => by
    have h0 : p x = false := ha 0 (by omega)
    have ih := firstI_at p l i (by simpa using h) (fun j hj => ha (j + 1) (by omega))
    rw [firstI, if_neg (by rw [h0]; decide)]
    exact ⟨fun hp => by rw [ih.1 hp], fun hp => by have := ih.2 hp; omega⟩
theorem firstI_none (p : α → Bool) : ∀ l : List α, (∀ x ∈ l, p x = false) → firstI p l = l.length
  | [], _ => rfl
  | x :: l, h => by
    rw [firstI, if_neg (by rw [h x (by simp)]; decide), firstI_none p l (fun y hy => h y (by simp [hy])), List.length_cons]
def idxL (p : α → Bool) (l : List α) : Int := if firstI p l < l.length then (firstI p l : Int) else -1
end Go.Proofs.YtoikneogdbdplaaDoor.Pl
namespace Go.Proofs.YtoikneogdbdplaaDoor.Fn
open Go.RowKit Go.Proofs.YtoikneogdbdplaaDoorW.PrintWords

theorem headsame_is (a b : ByteArray) (ha : a.size ≤ 35184372088832) (hb : b.size ≤ 35184372088832) : head_same.f a b = some (Pl.sameN a b) := by
  unfold head_same.f glyph_Fold.f Pl.sameN
  rw [if_pos ha, if_pos hb]
  rfl
def Asks (f : Nat) : Prop := ∀ (b : Nat) (name : ByteArray) (x0 x1 : ByteArray) (w : World), name.size ≤ 35184372088832 → x0.size ≤ 35184372088832 → w.cell? ⟨b, 0, none⟩ = some (.string name) →
  Calls Tryd.prog f #[.agg #[.string x0, .string x1], .pointer (some ⟨b, 0, none⟩)] w fun e w' => e = .returned (.bool (Pl.sameN x0 name)) ∧ Below w.heap.size w w'
set_option maxHeartbeats 4000000 in
set_option maxRecDepth 100000 in
theorem asks_put : Asks 55 := by
  intro b name x0 x1 w hn hx hc
  have hs := hid (headsame_is x0 name hx hn)
  have hlt := World.block_lt_of_cell? w _ hc
  have hu := Tryd.underlying30
  go_enter Tryd.func55, Tryd.ntmps55
  go_wp2_with (go_at_call 56; refine (head_same.calls x0 name _ _ hs.out).mono ?_; rintro e W1 ⟨rfl, b1⟩)
  go_ret
  exact ⟨rfl, ((Below.refl w.heap.size w).alloc (Nat.le_refl _) _).trans (b1.mono (by simp))⟩
set_option maxHeartbeats 4000000 in
set_option maxRecDepth 100000 in
theorem asks_without : Asks 59 := by
  intro b name x0 x1 w hn hx hc
  have hs := hid (headsame_is x0 name hx hn)
  have hlt := World.block_lt_of_cell? w _ hc
  have hu := Tryd.underlying30
  go_enter Tryd.func59, Tryd.ntmps59
  go_wp2_with (go_at_call 56; refine (head_same.calls x0 name _ _ hs.out).mono ?_; rintro e W1 ⟨rfl, b1⟩)
  go_ret
  exact ⟨rfl, ((Below.refl w.heap.size w).alloc (Nat.le_refl _) _).trans (b1.mono (by simp))⟩
def askN (name : ByteArray) (x : S30) : Bool := Pl.sameN x.f0 name
set_option maxHeartbeats 4000000 in
set_option maxRecDepth 100000 in
theorem IndexFunc_calls (f : Nat) (hA : Asks f) (ef : ∀ args w, (callFunc f args).run Tryd.prog w = .ok (.enter f args) w) (b : Nat) (name : ByteArray) (A : Option Addr) (c : Nat) (l : List (S30)) (w : World) (hC : Kd.C k30 w A l.length l)
    (hl : l.length ≤ 1000000000) (hz : ∀ x ∈ l, x.f0.size ≤ 35184372088832) (hn : name.size ≤ 35184372088832) (hb : w.cell? ⟨b, 0, none⟩ = some (.string name)) :
    Calls Tryd.prog 54 #[.slice A l.length c, .func (.func f) #[] #[.pointer (some ⟨b, 0, none⟩)]] w fun e w' => e = .returned (.int .i64 (Pl.idxL (askN name) l)) ∧ Below w.heap.size w w' := by
  have HC := hid hC
  have HZ := hid hz
  have HA := hid hA
  clear hC hz hA
  have hbl := World.block_lt_of_cell? w _ hb
  have hu := Tryd.underlying30
  go_enter Tryd.func54, Tryd.ntmps54
  go_wp2
  go_loopw [8] (fun v8 wr => ∃ i : Nat, i ≤ l.length ∧ v8 = .int .i64 i ∧ Hid (∀ j (hj : j < l.length), j < i → askN name l[j] = false) ∧ Below w.heap.size w wr) (fun v8 _ => l.length - (intOf v8).toNat)
  case atStart => exact ⟨0, Nat.zero_le _, rfl, fun j hj h => absurd h (Nat.not_lt_zero _), Below.refl _ w⟩
  case round =>
    obtain ⟨i, hi, rfl, hno, hbw⟩ := hrel
    by_cases hlt : i < l.length
    · obtain ⟨ad, e0, hx0, hx1⟩ := at_T30 HC.out (i : Int) (by omega) (by omega)
      subst e0
      have hrd : rd_T30 l (i : Int) = l[i]'hlt := by
        unfold rd_T30
        rw [Int.toNat_natCast, List.getD_eq_getElem?_getD, List.getElem?_eq_getElem hlt]; rfl
      rw [hrd] at hx0 hx1
      simp only [Int.toNat_natCast] at hx0 hx1
      replace hx0 := (hbw.cell (World.block_lt_of_cell? w _ hx0)).trans hx0
      replace hx1 := (hbw.cell (World.block_lt_of_cell? w _ hx1)).trans hx1
      have hbr := (hbw.cell (p := ⟨b, 0, none⟩) hbl).trans hb
      have hask : askN name (l[i]'hlt) = Pl.sameN (l[i]'hlt).f0 name := rfl
      have hcall := hid (HA.out b name (l[i]'hlt).f0 (l[i]'hlt).f1 wr hn (HZ.out _ (List.getElem_mem hlt)) hbr)
      have hfi := hid (Pl.firstI_at (askN name) l i hlt (fun j hj => hno.out j (by omega) hj))
      have hq0 : ∃ q, Pl.sameN (l[i]'hlt).f0 name = q := ⟨_, rfl⟩
      obtain ⟨q, hq⟩ := hq0
      rw [hq] at hcall
      have HQ : Hid (askN name (l[i]'hlt) = q) := hask.trans hq
      clear hask hq hrd
      generalize (l[i]'hlt).f0 = y0 at hx0 hcall
      generalize (l[i]'hlt).f1 = y1 at hx1 hcall
      have c1 : ((0 : Int) ≤ (i : Int)) = True := eq_true (by omega)
      have c2 : ((i : Int) < (l.length : Int)) = True := eq_true (by omega)
      have c3 : decide ((i : Int) < (l.length : Int)) = true := decide_eq_true (by omega)
      cases q with
      | true =>
        go_wp2_with (go_at_fn f; refine hcall.out.mono ?_; rintro e W1 ⟨rfl, b1⟩)
        go_ret
        refine ⟨?_, hbw.trans (b1.mono hbw.size)⟩
        unfold Pl.idxL
        rw [hfi.out.1 HQ.out, if_pos hlt]
        rfl
      | false =>
        go_wp2_with (go_at_fn f; refine hcall.out.mono ?_; rintro e W1 ⟨rfl, b1⟩)
        go_roundw
        case rel =>
          refine ⟨i + 1, by omega, by go_num, (show Hid _ from fun j hj hji => ?_), hbw.trans (b1.mono hbw.size)⟩
          by_cases e : j = i
          · subst e; exact HQ.out
          · exact hno.out j hj (by omega)
        case measure => simp [intOf]; omega
    · have c3 : decide ((i : Int) < (l.length : Int)) = false := decide_eq_false (by omega)
      go_wp2
      go_ret
      refine ⟨?_, hbw⟩
      unfold Pl.idxL
      rw [Pl.firstI_none _ _ (fun x hx => by
        obtain ⟨j, hj, rfl⟩ := List.mem_iff_getElem.1 hx
        exact hno.out j hj (by omega)), if_neg (by omega)]
      rfl
end Go.Proofs.YtoikneogdbdplaaDoor.Fn
set_option linter.unusedVariables false
set_option linter.unusedSimpArgs false
namespace Go.Proofs.YtoikneogdbdplaaDoor.Fn
open Go.RowKit Go.Proofs.YtoikneogdbdplaaDoorW.PrintWords

/-! A row of the call's own: cut off, and cleared behind. -/
section
variable {α : Type} {d : Kd α} {e base g n cap : Nat} {ok : Nat → Prop} {W : World} {xs : List α}
theorem reps_take {R : α → List Value → Prop} {size : Nat} {ps : List α} {cs : List Value} (h : Reps R size ps cs) (m : Nat) (hm : m ≤ ps.length) : Reps R size (ps.take m) (cs.take (m * size)) := by
  obtain ⟨h1, h2⟩ := h
  have hle : m * size ≤ ps.length * size := Nat.mul_le_mul_right _ hm
  refine ⟨by rw [List.length_take, List.length_take, h1]; rw [Nat.min_eq_left hle, Nat.min_eq_left hm], fun j p hp => ?_⟩
  have hj : j < m := by
    have := (List.getElem?_eq_some_iff.1 hp).1
    rw [List.length_take] at this
    omega
  rw [List.getElem?_take_of_lt hj] at hp
  have := h2 j p hp
  have hjm : j * size + size ≤ m * size := by rw [← Nat.succ_mul]; exact Nat.mul_le_mul_right _ hj
  rw [List.drop_take, List.take_take, Nat.min_eq_left (by omega)]
  exact this
theorem R_cut (h : d.R e W base ok (.slice (some ⟨g, 0, none⟩) n cap) xs) (m : Nat) (hm : m ≤ n) : d.R e W base ok (.slice (some ⟨g, 0, none⟩) m cap) (xs.take m) := by
  obtain ⟨h0, inner, ⟨ho1, ho2⟩, hr⟩ := h
  rcases ho2 with ⟨hv, _⟩ | ⟨g', cap', cur, hv, hb, hh, hnc, hcm, hcs, ht⟩
  · cases hv
  injection hv with ha hn hc
  injection ha with ha
  injection ha with hg
  subst hg; subst hc
  have hmx : m ≤ xs.length := by omega
  have hlen : (xs.take m).length = m := by rw [List.length_take]; omega
  have hle : m * d.sz ≤ xs.length * d.sz := Nat.mul_le_mul_right _ hmx
  refine ⟨h0, inner.take (m * d.sz), ⟨by rw [List.length_take, ho1, hlen]; omega, .inr ⟨g, cap, cur, by rw [hlen], hb, hh, by rw [hlen]; omega, hcm, hcs, ?_⟩⟩, ?_⟩
  · rw [hlen, ← ht, List.take_take, Nat.min_eq_left hle]
  · exact (reps_take hr m hmx).imp_ (fun p c hp => d.M_mono (fun k hk => hk) hp)
theorem R_beyond (h : d.R e W base ok (.slice (some ⟨g, 0, none⟩) n cap) xs) (vs : List Value) (o : Nat) (ho : n * d.sz ≤ o) (hfit : o + vs.length ≤ cap * d.sz) : d.R e (W.setCells g o vs) base ok (.slice (some ⟨g, 0, none⟩) n cap) xs := by
  obtain ⟨h0, inner, ⟨ho1, ho2⟩, hr⟩ := h
  rcases ho2 with ⟨hv, _⟩ | ⟨g', cap', cur, hv, hb, hh, hnc, hcm, hcs, ht⟩
  · cases hv
  injection hv with ha hn hc
  injection ha with ha
  injection ha with hg
  subst hg; subst hc
  obtain ⟨cur', h3, h4, h5⟩ := setCells_row vs o W cur hh (by omega)
  refine ⟨h0, inner, ⟨ho1, .inr ⟨g, cap, cur', by rw [← hn], hb, h3, hnc, hcm, by rw [h4]; exact hcs, ?_⟩⟩, hr.imp_ (fun p c hp => d.M_move (fun k hk => setCells_far vs _ k (fun e => hk.2 (by rw [e]; simp [Value.ownBlock]))) hp)⟩
  rw [← ht]
  apply List.ext_getElem?
  intro q
  rw [List.getElem?_take, List.getElem?_take]
  split
  · rename_i hq
    rw [h5, List.append_assoc, List.getElem?_append_left (by
      rw [List.length_take, Array.length_toList]
      have hle : xs.length * d.sz ≤ cap * d.sz := Nat.mul_le_mul_right _ hnc
      rw [hn] at ho
      omega), List.getElem?_take_of_lt (by rw [hn] at ho; omega)]
  · rfl
end
def fzero : Value := .agg #[.string (⟨#[]⟩ : ByteArray), .string (⟨#[]⟩ : ByteArray)]
theorem zero_field (w : World) : (zeroValue 30).run Tryd.prog w = .ok fzero w := by kernel_rfl
theorem run_clear_fields (w : World) (b o n : Nat) (hn : 0 < n)
    (hc : ∀ j, j < n * 2 → (w.cell? ⟨b, o + j, none⟩).isSome = true) (hf : ∀ j, j < n * 2 → w.frozen? ⟨b, o + j, none⟩ = false) :
    ∃ vs : List Value, vs.length = n * 2 ∧ ∀ (ty : TypeId) (c : Nat), (Builtin.clear_ #[27] ty #[.slice (some ⟨b, o, none⟩) n c]).run Tryd.prog w = .ok (.tuple #[]) (w.setCells b o vs) := by
  refine ⟨(Builtin.zeroCells fzero.cells n).toList, ?_, ?_⟩
  · simp [Builtin.zeroCells, fzero, Value.cells]
  · have hl : (Builtin.zeroCells fzero.cells n).toList.length = n * 2 := by
      simp [Builtin.zeroCells, fzero, Value.cells]
    have hst := Go.run_storeCells_cells (P := Tryd.prog) b o (Builtin.zeroCells fzero.cells n).toList 0 w (by intro j hj; rw [hl] at hj; simpa using hc j hj) (by intro j hj; rw [hl] at hj; simp) (by
      intro v hv
      simp only [Builtin.zeroCells, fzero, Value.cells, Array.toList_map, List.mem_map] at hv
      obtain ⟨i, _, rfl⟩ := hv
      have h2 : i % #[Value.string (⟨#[]⟩ : ByteArray), Value.string (⟨#[]⟩ : ByteArray)].size = 0 ∨ i % #[Value.string (⟨#[]⟩ : ByteArray), Value.string (⟨#[]⟩ : ByteArray)].size = 1 := by
        have : #[Value.string (⟨#[]⟩ : ByteArray), Value.string (⟨#[]⟩ : ByteArray)].size = 2 := rfl
        rw [this]
        omega
      rcases h2 with h2 | h2 <;> rw [h2] <;> rfl)
    simp only [Nat.add_zero] at hst
    obtain ⟨m, rfl⟩ : ∃ m, n = m + 1 := ⟨n - 1, by omega⟩
    have hst2 := hst
    unfold fzero at hst2
    intro ty c
    simp [Builtin.clear_, run_underlying Tryd.underlying27, zero_field, hst, hst2, fzero]
theorem firstI_kept {α : Type} (p : α → Bool) : ∀ l : List α, Pl.firstI p l < l.length → (l.take (Pl.firstI p l + 1)).filter (fun x => !p x) = l.take (Pl.firstI p l)
  | [], h => by simp at h
  | x :: l, h => by
    rw [Pl.firstI] at h ⊢
    cases hx : p x with
    | true => simp [hx]
    | false =>
      rw [hx] at h
      simp only [Bool.false_eq_true, if_false, List.length_cons] at h ⊢
      rw [List.take_succ_cons, List.take_succ_cons, List.filter_cons, hx, if_pos (by rfl), firstI_kept p l (by omega)]
theorem firstI_all {α : Type} (p : α → Bool) : ∀ l : List α, ¬ Pl.firstI p l < l.length → l.filter (fun x => !p x) = l
  | [], _ => rfl
  | x :: l, h => by
    rw [Pl.firstI] at h
    cases hx : p x with
    | true => rw [hx] at h; simp at h
    | false =>
      rw [hx] at h
      simp only [Bool.false_eq_true, if_false, List.length_cons] at h
      rw [List.filter_cons, hx, if_pos (by rfl), firstI_all p l (by omega)]
structure Kept2 {α : Type} (p : α → Bool) (l : List α) (i j : Nat) (L : List α) : Prop where
  len : L.length = l.length
  lt : i < j
  le : j ≤ l.length
  low : L.take i = (l.take j).filter (fun x => !p x)
  high : L.drop j = l.drop j
theorem Kept2.at_ {α : Type} {p : α → Bool} {l L : List α} {i j : Nat} (h : Kept2 p l i j L) (hj : j < l.length) (hj2 : j < L.length) : L[j] = l[j] := by
  have := congrArg (·[0]?) h.high
  simp only [List.getElem?_drop, Nat.add_zero] at this
  rw [List.getElem?_eq_getElem hj, List.getElem?_eq_getElem hj2] at this
  exact Option.some.inj this
theorem drop_succ_of {α : Type} {l L : List α} {j : Nat} (h : L.drop j = l.drop j) : L.drop (j + 1) = l.drop (j + 1) := by
  rw [← List.drop_drop, ← List.drop_drop, h]
theorem Kept2.skip {α : Type} {p : α → Bool} {l L : List α} {i j : Nat} (h : Kept2 p l i j L) (hj : j < l.length) (hp : p l[j] = true) : Kept2 p l i (j + 1) L :=
  ⟨h.len, by have := h.lt; omega, hj, by rw [List.take_succ_eq_append_getElem hj, List.filter_append, h.low]; simp [hp], drop_succ_of h.high⟩
theorem Kept2.keep {α : Type} {p : α → Bool} {l L : List α} {i j : Nat} (h : Kept2 p l i j L) (hj : j < l.length) (hp : p l[j] = false) : Kept2 p l (i + 1) (j + 1) (L.set i l[j]) := by
  have hlt := h.lt
  have hlen := h.len
  have hi : i < (L.set i l[j]).length := by rw [List.length_set]; omega
  refine ⟨by rw [List.length_set]; exact hlen, by omega, hj, ?_, ?_⟩
  · rw [List.take_succ_eq_append_getElem hi, List.take_succ_eq_append_getElem hj, List.filter_append, ← h.low, List.getElem_set_self, List.take_set_of_le (Nat.le_refl _)]
    simp [hp]
  · rw [List.drop_set_of_lt (by omega)]
    exact drop_succ_of h.high
set_option maxHeartbeats 8000000 in
set_option maxRecDepth 100000 in
theorem DeleteFunc_calls (f : Nat) (hA : Asks f) (ef : ∀ args w, (callFunc f args).run Tryd.prog w = .ok (.enter f args) w) (b : Nat) (name : ByteArray) (g cap base : Nat) (l : List (S30)) (w : World)
    (hR : Kd.R k30 30 w base (fun _ => True) (.slice (some ⟨g, 0, none⟩) l.length cap) l)
    (hl : l.length ≤ 1000000000) (hz : ∀ x ∈ l, x.f0.size ≤ 35184372088832) (hn : name.size ≤ 35184372088832) (hb : w.cell? ⟨b, 0, none⟩ = some (.string name)) (hbg : b ≠ g) (hbase : base ≤ w.heap.size) :
    Calls Tryd.prog 58 #[.slice (some ⟨g, 0, none⟩) l.length cap, .func (.func f) #[] #[.pointer (some ⟨b, 0, none⟩)]] w fun e w' =>
      ∃ m, m = (l.filter (fun x => !askN name x)).length ∧ e = .returned (.slice (some ⟨g, 0, none⟩) m cap) ∧ Kd.R k30 30 w' base (fun _ => True) (.slice (some ⟨g, 0, none⟩) m cap) (l.filter (fun x => !askN name x)) ∧ Below base w w' := by
  have hg : base ≤ g := by
    obtain ⟨_, inner, ho, _⟩ := hR
    exact (ho.lt g (by simp [Value.ownBlock])).1
  obtain ⟨-, hlc, hC⟩ := Kd.R_reads' hR
  have hIF := IndexFunc_calls f hA ef b name _ cap l w hC hl hz hn hb
  have HR := hid hR
  have HZ := hid hz
  have HA := hid hA
  clear hR hz hA hC
  have hbl := World.block_lt_of_cell? w _ hb
  have hu := Tryd.underlying30
  by_cases hf : Pl.firstI (askN name) l < l.length
  · have hidx : Pl.idxL (askN name) l = (Pl.firstI (askN name) l : Int) := by unfold Pl.idxL; rw [if_pos hf]
    rw [hidx] at hIF
    have hk0 := hid (firstI_kept (askN name) l hf)
    generalize Pl.firstI (askN name) l = i0 at hIF hk0 hf
    have hne1 : ((i0 : Int) == -1) = false := beq_eq_false_iff_ne.2 (by omega)
    go_enter Tryd.func58, Tryd.ntmps58
    go_wp2_with (go_at_call 54; refine hIF.mono ?_; rintro e w1 ⟨rfl, b0⟩)
    go_loopw [5, 6] (fun v5 v6 wr => ∃ (i j : Nat) (L : List (S30)), v5 = .int .i64 i ∧ v6 = .int .i64 j ∧ Hid (Kept2 (askN name) l i j L) ∧ Hid (Kd.R k30 30 wr base (fun _ => True) (.slice (some ⟨g, 0, none⟩) l.length cap) L) ∧ wr.cell? ⟨b, 0, none⟩ = some (.string name) ∧ Hid (Below base w wr)) (fun _ v6 _ => l.length - (intOf v6).toNat)
    case atStart => exact ⟨i0, i0 + 1, l, rfl, by go_num, ⟨rfl, by omega, by omega, hk0.out.symm, rfl⟩, Kd.R_below HR.out b0, (b0.cell (p := ⟨b, 0, none⟩) hbl).trans hb, b0.mono hbase⟩
    case round =>
      obtain ⟨i, j, L, rfl, rfl, hK, hRL, hbr, hbw⟩ := hrel
      have hij := hK.out.lt
      have hjl := hK.out.le
      have hLl := hK.out.len
      have hbrl := World.block_lt_of_cell? wr _ hbr
      obtain ⟨-, -, hCL⟩ := Kd.R_reads' hRL.out
      have hadd : ∀ q : Nat, (⟨g, 0, none⟩ : Addr).add q = ⟨g, q, none⟩ := fun q => add_plain g q
      have hfz : ∀ q : Nat, wr.frozen? ⟨g, q, none⟩ = false := by
        obtain ⟨_, inner, ho, _⟩ := hRL.out
        obtain ⟨cells, hc⟩ := own_typed ho g (by simp [Value.ownBlock])
        exact fun q => blk_frozen hc q
      have hcl : ∀ (q : Nat) (hq : q < L.length), wr.cell? ⟨g, q * 2, none⟩ = some (.string L[q].f0) ∧ wr.cell? ⟨g, q * 2 + 1, none⟩ = some (.string L[q].f1) := fun q hq => by
        obtain ⟨ad, e0, h0, h1⟩ := at_T30 hCL (q : Int) (by omega) (by omega)
        have e0 : (⟨g, 0, none⟩ : Addr) = ad := Option.some.inj e0
        have hrd : rd_T30 L (q : Int) = L[q] := by
          unfold rd_T30
          rw [Int.toNat_natCast, List.getD_eq_getElem?_getD, List.getElem?_eq_getElem hq]; rfl
        rw [hrd, ← e0, Int.toNat_natCast, hadd] at h0 h1
        exact ⟨h0, h1⟩
      by_cases hlt : j < l.length
      · have hjL : j < L.length := by omega
        have hiL : i < L.length := by omega
        have hat := hK.out.at_ hlt hjL
        obtain ⟨hx0, hx1⟩ := hcl j hjL
        obtain ⟨hy0, hy1⟩ := hcl i hiL
        rw [hat] at hx0 hx1
        have hxz := HZ.out _ (List.getElem_mem hlt)
        have hf0 := hfz (i * 2)
        have hf1 := hfz (i * 2 + 1)
        have hgl := World.block_lt_of_cell? wr _ hx0
        have HK1 := hid (fun hp => hK.out.keep hlt hp)
        have HK2 := hid (fun hp => hK.out.skip hlt hp)
        obtain ⟨⟨y0, y1⟩, hxx⟩ : ∃ x : S30, l[j]'hlt = x := ⟨_, rfl⟩
        rw [hxx] at hx0 hx1 hxz HK1 HK2
        simp only at hx0 hx1 hxz
        have hask : askN name (⟨y0, y1⟩ : S30) = Pl.sameN y0 name := rfl
        obtain ⟨q, hq⟩ : ∃ q, Pl.sameN y0 name = q := ⟨_, rfl⟩
        have HQ : Hid (askN name (⟨y0, y1⟩ : S30) = q) := hask.trans hq
        have hcall := hid (fun W hW => HA.out b name y0 y1 W hn hxz hW)
        rw [hq] at hcall
        clear hask hq hcl hCL hat hxz hadd hfz hxx
        generalize L[i].f0 = o0 at hy0
        generalize L[i].f1 = o1 at hy1
        have c1 : ((0 : Int) ≤ (j : Int)) = True := eq_true (by omega)
        have c2 : ((j : Int) < (l.length : Int)) = True := eq_true (by omega)
        have c3 : decide ((j : Int) < (l.length : Int)) = true := decide_eq_true (by omega)
        have c4 : ((0 : Int) ≤ (i : Int)) = True := eq_true (by omega)
        have c5 : ((i : Int) < (l.length : Int)) = True := eq_true (by omega)
        clear hLl hiL hjL hij hjl
        cases q with
        | true =>
          go_wp2
          refine (hcall.out _ ((((Below.refl wr.heap.size wr).alloc (Nat.le_refl _) _).cell (p := ⟨b, 0, none⟩) hbrl).trans hbr)).mono ?_
          rintro e W2 ⟨rfl, b1⟩
          have B2 : Below wr.heap.size wr W2 := ((Below.refl wr.heap.size wr).alloc (Nat.le_refl _) _).trans (b1.mono (by simp))
          have HB2 := hid B2
          clear B2
          go_wp2
          go_roundw
          case rel => exact ⟨i, j + 1, L, rfl, by go_num, HK2.out HQ.out, Kd.R_below hRL.out HB2.out, (HB2.out.cell (p := ⟨b, 0, none⟩) hbrl).trans hbr, hbw.out.trans (HB2.out.mono (Nat.le_trans hbase hbw.out.size))⟩
          case measure => simp [intOf]; omega
        | false =>
          go_wp2
          refine (hcall.out _ ((((Below.refl wr.heap.size wr).alloc (Nat.le_refl _) _).cell (p := ⟨b, 0, none⟩) hbrl).trans hbr)).mono ?_
          rintro e W2 ⟨rfl, b1⟩
          have B2 : Below wr.heap.size wr W2 := ((Below.refl wr.heap.size wr).alloc (Nat.le_refl _) _).trans (b1.mono (by simp))
          have k0 : W2.cell? ⟨wr.heap.size, 0, none⟩ = some (.string y0) := (b1.cell (p := ⟨wr.heap.size, 0, none⟩) (by simp)).trans ((blk_cell (blk_new wr _) 0).trans rfl)
          have k1 : W2.cell? ⟨wr.heap.size, 1, none⟩ = some (.string y1) := (b1.cell (p := ⟨wr.heap.size, 1, none⟩) (by simp)).trans ((blk_cell (blk_new wr _) 1).trans rfl)
          have m0 := (B2.cell (p := ⟨g, i * 2, none⟩) hgl).trans hy0
          have m1 := (B2.cell (p := ⟨g, i * 2 + 1, none⟩) hgl).trans hy1
          have n0 := (B2.frozen (p := ⟨g, i * 2, none⟩) hgl).trans hf0
          have n1 := (B2.frozen (p := ⟨g, i * 2 + 1, none⟩) hgl).trans hf1
          have HB2 := hid B2
          clear B2
          go_wp2
          go_roundw
          case rel =>
            have hij := hK.out.lt
            have hjl := hK.out.le
            have hLl := hK.out.len
            have hS := (Kd.R_seg (Kd.R_below hRL.out HB2.out) (i : Int) (by omega) (by omega) (c := [.string o0, .string o1]) (seg := [.string y0, .string y1]) (j := 0) rfl (fun q u hq => by
              match q, hq with
              | 0, hq => obtain rfl := Option.some.inj hq; exact m0
              | 1, hq => obtain rfl := Option.some.inj hq; exact m1
              | q + 2, hq => simp at hq) (Nat.le_refl 2) (x' := (⟨y0, y1⟩ : S30)) (okp := fun k => k ≠ g) (k30_mkM W2 base _ ⟨y0, y1⟩) (fun k hk => ⟨trivial, hk⟩)).1
            rw [Int.toNat_natCast] at hS
            exact ⟨i + 1, j + 1, L.set i ⟨y0, y1⟩, by rw [Pl.wrap_succ i (by omega)], by go_num, HK1.out HQ.out, hS,
              ((cell_far (p := ⟨g, i * 2 + 1, none⟩) hbg _).trans ((cell_far (p := ⟨g, i * 2, none⟩) hbg _).trans ((HB2.out.cell (p := ⟨b, 0, none⟩) hbrl).trans hbr))),
              ((hbw.out.trans (HB2.out.mono (Nat.le_trans hbase hbw.out.size))).setCell (p := ⟨g, i * 2, none⟩) hg _).setCell (p := ⟨g, i * 2 + 1, none⟩) hg _⟩
          case measure => simp [intOf]; omega
      · have hjn : j = l.length := by omega
        obtain ⟨vs, hvl, hclr⟩ := run_clear_fields wr g (i * 2) (l.length - i) (by omega) (fun q hq => by
          have hq2 : i + q / 2 < L.length := by omega
          obtain ⟨h0, h1⟩ := hcl (i + q / 2) hq2
          rcases (show q % 2 = 0 ∨ q % 2 = 1 by omega) with h2 | h2
          · rw [show i * 2 + q = (i + q / 2) * 2 by omega, h0]; rfl
          · rw [show i * 2 + q = (i + q / 2) * 2 + 1 by omega, h1]; rfl) (fun q _ => hfz _)
        have hlow := hid hK.out.low
        have hin : i ≤ l.length := by omega
        have hic : i < cap := by omega
        have c3 : decide ((j : Int) < (l.length : Int)) = false := decide_eq_false (by omega)
        have c6 : ((0 : Int) ≤ (i : Int)) = True := eq_true (by omega)
        have HVL := hid hvl
        have HIN := hid hin
        have HJN := hid hjn
        have HLL := hid hLl
        clear hvl hadd hfz hcl hCL hLl hjn hij hjl
        go_wp2
        go_ret
        have hfl : l.filter (fun x => !askN name x) = L.take i := by rw [hlow.out, HJN.out, List.take_of_length_le (Nat.le_refl _)]
        have hm : (l.filter (fun x => !askN name x)).length = i := by
          have := HLL.out
          rw [hfl, List.length_take]
          omega
        obtain ⟨s1, s2, s3, s4⟩ := setCells_same g vs (i * 2) wr
        have hfit : i * 2 + vs.length ≤ cap * 2 := by
          have := HVL.out
          omega
        refine ⟨by rw [hm]; rfl, ?_, hbw.out.trans ⟨s1, s2, s3, by rw [s4]; exact Nat.le_refl _, fun k hk => setCells_far vs _ k (by omega)⟩⟩
        rw [hm, hfl]
        exact R_beyond (R_cut hRL.out i HIN.out) vs (i * 2) (Nat.le_refl _) hfit
  · have hidx : Pl.idxL (askN name) l = -1 := by unfold Pl.idxL; rw [if_neg hf]
    rw [hidx] at hIF
    have hall := firstI_all (askN name) l hf
    rw [hall]
    go_enter Tryd.func58, Tryd.ntmps58
    go_wp2_with (go_at_call 54; refine hIF.mono ?_; rintro e w1 ⟨rfl, b0⟩)
    go_ret
    exact ⟨_, rfl, rfl, Kd.R_below HR.out b0, b0.mono hbase⟩
end Go.Proofs.YtoikneogdbdplaaDoor.Fn
set_option linter.unusedVariables false
set_option linter.unusedSimpArgs false
namespace Go.Proofs.YtoikneogdbdplaaDoor.Fn
open Go.RowKit Go.Proofs.YtoikneogdbdplaaDoorW.PrintWords

def flatF (l : List (S30)) : List Value := l.flatMap fun x => [.string x.f0, .string x.f1]
theorem flatF_cons (x : S30) (l : List (S30)) : flatF (x :: l) = .string x.f0 :: .string x.f1 :: flatF l := rfl
theorem flatF_len : ∀ l : List (S30), (flatF l).length = l.length * 2
  | [] => rfl
  | x :: l => by rw [flatF_cons, List.length_cons, List.length_cons, flatF_len l, List.length_cons]; omega
theorem flatF_one : ∀ (l : List (S30)), ∀ u ∈ flatF l, u.oneCell' = true
  | [], u, h => by cases h
  | x :: l, u, h => by
    rw [flatF_cons] at h
    rcases List.mem_cons.1 h with rfl | h
    · rfl
    rcases List.mem_cons.1 h with rfl | h
    · rfl
    · exact flatF_one l u h
theorem flatF_at : ∀ (l : List (S30)) (j : Nat) (u : Value), (flatF l)[j]? = some u → ∃ x, l[j / 2]? = some x ∧ [Value.string x.f0, .string x.f1][j % 2]? = some u
  | [], j, u, h => by simp [flatF] at h
  | x :: l, 0, u, h => ⟨x, rfl, h⟩
  | x :: l, 1, u, h => ⟨x, rfl, h⟩
  | x :: l, j + 2, u, h => by
    rw [flatF_cons] at h
    obtain ⟨y, h1, h2⟩ := flatF_at l j u h
    refine ⟨y, ?_, ?_⟩
    · rw [show (j + 2) / 2 = j / 2 + 1 by omega]; exact h1
    · rw [show (j + 2) % 2 = j % 2 by omega]; exact h2
theorem flatF_part : ∀ (l : List (S30)) (j : Nat) (x : S30), l[j]? = some x → ((flatF l).drop (j * 2)).take 2 = [.string x.f0, .string x.f1]
  | [], j, x, h => by simp at h
  | y :: l, 0, x, h => by
    obtain rfl : y = x := by simpa using h
    rfl
  | y :: l, j + 1, x, h => by
    rw [flatF_cons, show (j + 1) * 2 = j * 2 + 1 + 1 by omega, List.drop_succ_cons, List.drop_succ_cons]
    exact flatF_part l j x (by simpa using h)
theorem reps_flat (w : World) (base : Nat) (ok : Nat → Prop) (l : List (S30)) : Reps (k30.M w base ok) 2 l (flatF l) :=
  ⟨flatF_len l, fun j p h => by rw [flatF_part l j p h]; exact k30_mkM w base ok p⟩
theorem flat_cells {w : World} {ad : Addr} {l : List (S30)} (hC : Kd.C k30 w (some ad) l.length l) (j : Nat) (u : Value) (h : (flatF l)[j]? = some u) : w.cell? (ad.add j) = some u := by
  obtain ⟨x, h1, h2⟩ := flatF_at l j u h
  have hj : j / 2 < l.length := (List.getElem?_eq_some_iff.1 h1).1
  obtain ⟨_, _, h3⟩ := hC
  obtain ⟨ad', e, h4⟩ := h3 (by omega)
  obtain rfl : ad = ad' := Option.some.inj e
  obtain ⟨c, _, hK, h5⟩ := h4 (j / 2) x h1
  obtain rfl := k30_open hK
  have h6 : w.cell? (ad.add (j / 2 * 2 + j % 2)) = some u := h5 (j % 2) u h2
  rwa [show j / 2 * 2 + j % 2 = j by omega] at h6
theorem R_of_row {w : World} {base : Nat} {v : Value} {l : List (S30)} (h : w.ownsRow base 30 2 v l.length (flatF l)) : Kd.R k30 30 w base (fun _ => True) v l :=
  ⟨fun k hk => trivial, flatF l, h, reps_flat w base _ l⟩
theorem info_field : ∃ i, Tryd.prog.info? 30 = some i ∧ i.zero = some (.agg #[.string ⟨#[]⟩, .string ⟨#[]⟩]) ∧ i.size = 2 ∧ i.bytes = 32 := by
  have h := info30
  cases hq : Tryd.prog.info? 30 with
  | none => rw [hq] at h; cases h
  | some i =>
    rw [hq] at h
    simp only [Option.map_some, Option.some.injEq, Prod.mk.injEq] at h
    exact ⟨i, rfl, h.1, h.2.1, h.2.2⟩
set_option maxHeartbeats 4000000 in
set_option maxRecDepth 100000 in
theorem Clone_some (ad : Addr) (c : Nat) (l : List (S30)) (w : World) (hC : Kd.C k30 w (some ad) l.length l) (hl : l.length ≤ 1000000000) :
    Calls Tryd.prog 57 #[.slice (some ad) l.length c] w fun e w' => ∃ v, e = .returned v ∧ Kd.R k30 30 w' w.heap.size (fun _ => True) v l ∧ v ≠ .slice none 0 0 ∧ Below w.heap.size w w' := by
  have HC := hid hC
  clear hC
  obtain ⟨i0, hi, hz0, hz1, hz2⟩ := info_field
  have hq : ∀ (w : World) (a : Option Addr) (n c n' c' : Nat), (binOp .eql 27 (.slice a n c) (.slice none n' c')).run Tryd.prog w = .ok (.bool a.isNone) w := fun w a n c n' c' => Lib.run_eql_slice_nil w _ _ a n c n' c' Tryd.underlying27
  go_enter Tryd.func57, Tryd.ntmps57
  go_wp2_with (at_builtin; refine wpList_append_own _ rfl _ _ 27 rfl w.heap.size 30 i0 _ 2 32 Tryd.underlying27 hi hz0 hz1 hz2 rfl (by decide) _ _ _ rfl (World.ownsRow_made w #[] 0 (Nat.le_refl _) (Nat.zero_le _) (by simp)) ad l.length c (flatF l) rfl ?qc1 ?qc2 ?qc3 ?qc4 ?qc5 ?qc6 ?_)
  case qc1 => exact flatF_len l
  case qc2 =>
    intro j u hj
    exact Lib.cell?_alloc_some _ (flat_cells HC.out j u hj)
  case qc3 => exact flatF_one l
  case qc4 => rw [Nat.zero_add]; unfold maxLen; omega
  case qc5 => rw [Nat.zero_add]; omega
  case qc6 => simp
  intro v' w1 hown hgrow hnil
  go_wp2
  go_ret
  refine ⟨v', rfl, R_of_row (by simpa using hown), ?_, ?_⟩
  · exact hnil
  · exact ((Below.refl _ w).alloc (Nat.le_refl _) _).grown hgrow (by simp) (by intro k hk; simp [Value.ownBlock] at hk; omega)
set_option maxHeartbeats 4000000 in
set_option maxRecDepth 100000 in
theorem Clone_none (n c : Nat) (w : World) : Calls Tryd.prog 57 #[.slice none n c] w fun e w' => e = .returned (.slice none 0 0) ∧ w' = w := by
  have hq : ∀ (w : World) (a : Option Addr) (n c n' c' : Nat), (binOp .eql 27 (.slice a n c) (.slice none n' c')).run Tryd.prog w = .ok (.bool a.isNone) w := fun w a n c n' c' => Lib.run_eql_slice_nil w _ _ a n c n' c' Tryd.underlying27
  go_enter Tryd.func57, Tryd.ntmps57
  go_wp2
  go_ret
  exact ⟨rfl, rfl⟩
end Go.Proofs.YtoikneogdbdplaaDoor.Fn
set_option linter.unusedVariables false
set_option linter.unusedSimpArgs false
namespace Go.Proofs.YtoikneogdbdplaaDoor.Fn
open Go.RowKit Go.Proofs.YtoikneogdbdplaaDoorW.PrintWords

def withoutL (l : List (S30)) (name : ByteArray) : List (S30) := l.filter (fun x => !askN name x)
def head_Without.f (l : List (S30)) (name : ByteArray) : Option (List (S30)) :=
  if l.length ≤ 1000000000 then (if name.size ≤ 35184372088832 then (if l.all (fun x => decide (x.f0.size ≤ 35184372088832)) = true then some (withoutL l name) else none) else none) else none
theorem enter_without : ∀ args w, (callFunc 59 args).run Tryd.prog w = .ok (.enter 59 args) w := enters_of Tryd.func59 (by kernel_rfl) rfl
theorem enter_put : ∀ args w, (callFunc 55 args).run Tryd.prog w = .ok (.enter 55 args) w := enters_of Tryd.func55 (by kernel_rfl) rfl
set_option maxHeartbeats 4000000 in
set_option maxRecDepth 100000 in
theorem DeleteFunc_nil (f : Nat) (hA : Asks f) (ef : ∀ args w, (callFunc f args).run Tryd.prog w = .ok (.enter f args) w) (b : Nat) (name : ByteArray) (w : World) (hn : name.size ≤ 35184372088832) (hb : w.cell? ⟨b, 0, none⟩ = some (.string name)) :
    Calls Tryd.prog 58 #[.slice none 0 0, .func (.func f) #[] #[.pointer (some ⟨b, 0, none⟩)]] w fun e w' => e = .returned (.slice none 0 0) ∧ Below w.heap.size w w' := by
  have hIF := IndexFunc_calls f hA ef b name none 0 [] w ⟨rfl, by simp, fun h => absurd h (by simp)⟩ (by simp) (fun x hx => by cases hx) hn hb
  have hidx : Pl.idxL (askN name) ([] : List (S30)) = -1 := rfl
  rw [hidx] at hIF
  have hIF2 : Calls Tryd.prog 54 #[.slice none 0 0, .func (.func f) #[] #[.pointer (some ⟨b, 0, none⟩)]] w fun e w' => e = .returned (.int .i64 (-1)) ∧ Below w.heap.size w w' := hIF
  clear hIF hidx
  go_enter Tryd.func58, Tryd.ntmps58
  go_wp2_with (go_at_call 54; refine hIF2.mono ?_; rintro e w1 ⟨rfl, b0⟩)
  go_ret
  exact ⟨rfl, b0⟩
theorem row_form {W : World} {base : Nat} {ok : Nat → Prop} {v : Value} {l : List (S30)} (h : Kd.R k30 30 W base ok v l) (hne : v ≠ .slice none 0 0) : ∃ g cap, v = .slice (some ⟨g, 0, none⟩) l.length cap ∧ base ≤ g := by
  obtain ⟨_, inner, ⟨_, ho⟩, _⟩ := h
  rcases ho with ⟨hv, _⟩ | ⟨g, cap, cur, hv, hb, _⟩
  · exact absurd hv hne
  · exact ⟨g, cap, hv, hb⟩
set_option maxHeartbeats 4000000 in
set_option maxRecDepth 100000 in
theorem head_Without.calls (A : Option Addr) (c : Nat) (l : List (S30)) (name : ByteArray) (r : List (S30)) (w : World) (hC : Kd.C k30 w A l.length l) (hc : l.length ≤ c) (h : head_Without.f l name = some r) :
    Calls Tryd.prog 15 #[.slice A l.length c, .string name] w fun e w' => ∃ v, e = .returned v ∧ Kd.R k30 30 w' w.heap.size (fun _ => True) v r ∧ Below w.heap.size w w' := by
  unfold head_Without.f at h
  by_cases hl : l.length ≤ 1000000000
  case neg => rw [if_neg hl] at h; exact absurd h (by simp)
  rw [if_pos hl] at h
  by_cases hn : name.size ≤ 35184372088832
  case neg => rw [if_neg hn] at h; exact absurd h (by simp)
  rw [if_pos hn] at h
  by_cases hz : l.all (fun x => decide (x.f0.size ≤ 35184372088832)) = true
  case neg => rw [if_neg hz] at h; exact absurd h (by simp)
  rw [if_pos hz] at h
  have HR := hid (Option.some.inj h)
  have HZ := hid (fun x (hx : x ∈ l) => of_decide_eq_true (List.all_eq_true.1 hz x hx))
  have HCC := hid hC
  clear h hz hC
  obtain ⟨w0, hw0⟩ : ∃ w0, w.alloc (.cells #[.string name] 9) = w0 := ⟨_, rfl⟩
  have HB0 := hid (show Below w.heap.size w w0 by rw [← hw0]; exact (Below.refl _ w).alloc (Nat.le_refl _) _)
  have hs0 : w0.heap.size = w.heap.size + 1 := by rw [← hw0]; simp
  have hcell : w0.cell? ⟨w.heap.size, 0, none⟩ = some (.string name) := by rw [← hw0]; exact (blk_cell (blk_new w _) 0).trans rfl
  cases A with
  | none =>
    have hnil : l = [] := by
      by_cases h0 : 0 < l.length
      · obtain ⟨ad, e, _⟩ := HCC.out.2.2 h0
        cases e
      · exact List.eq_nil_of_length_eq_zero (by omega)
    subst hnil
    have HD := hid (DeleteFunc_nil 59 asks_without enter_without w.heap.size name w0 hn hcell)
    go_enter Tryd.func15, Tryd.ntmps15
    go_wp2_with (first
      | (go_at_call 57; refine (Clone_none 0 c w0).mono ?_; rintro e w1 ⟨rfl, rfl⟩)
      | (go_at_call 58; refine HD.out.mono ?_; rintro e w2 ⟨rfl, b2⟩))
    go_ret
    refine ⟨_, rfl, ?_, HB0.out.trans (b2.mono (by omega))⟩
    rw [← HR.out]
    exact Kd.R_nil _ _ _ _ _
  | some ad =>
    have hCl := hid (Clone_some ad c l w0 (Kd.C_below HCC.out (by have := HB0.out; exact this)) hl)
    go_enter Tryd.func15, Tryd.ntmps15
    go_wp2_with (first
      | (go_at_call 57; refine hCl.out.mono ?_; rintro e w1 ⟨v, rfl, hR, hne, b1⟩; obtain ⟨g, cap, rfl, hg⟩ := row_form hR hne; have hb1 := (b1.cell (p := ⟨w.heap.size, 0, none⟩) (by show w.heap.size < w0.heap.size; omega)).trans hcell)
      | (go_at_call 58; refine (DeleteFunc_calls 59 asks_without enter_without w.heap.size name g cap w0.heap.size l w1 hR hl HZ.out hn hb1 (by omega) b1.size).mono ?_; rintro e w2 ⟨m, hm, rfl, hR2, b2⟩; subst hm))
    go_ret
    refine ⟨_, rfl, ?_, HB0.out.trans ((b1.trans b2).mono (by omega))⟩
    rw [← HR.out]
    exact Kd.R_lower (base' := w.heap.size) hR2 (show w.heap.size ≤ w0.heap.size by omega)
end Go.Proofs.YtoikneogdbdplaaDoor.Fn
set_option linter.unusedVariables false
set_option linter.unusedSimpArgs false
namespace Go.Proofs.YtoikneogdbdplaaDoor.Fn
open Go.RowKit Go.Proofs.YtoikneogdbdplaaDoorW.PrintWords

/-! Layer 15: a row of fields grows by another -/
theorem flat_of_reps {w : World} {base : Nat} {ok : Nat → Prop} : ∀ (l : List (S30)) (inner : List Value), Reps (k30.M w base ok) 2 l inner → inner = flatF l
  | [], inner, h => by
    have h1 : inner.length = 0 := h.1
    exact List.eq_nil_of_length_eq_zero h1
  | x :: l, inner, h => by
    have h0 := k30_openM (h.2 0 x rfl)
    rw [Nat.zero_mul, List.drop_zero] at h0
    have ih := flat_of_reps l (inner.drop 2) ⟨by rw [List.length_drop, h.1, List.length_cons]; omega, fun j p hj => by
      have h1 := h.2 (j + 1) p (by simpa using hj)
      rw [show (j + 1) * 2 = 2 + j * 2 by omega, ← List.drop_drop] at h1
      exact h1⟩
    rw [flatF_cons, ← ih]
    have h3 := List.take_append_drop 2 inner
    rw [h0] at h3
    exact h3.symm
theorem flatF_append (l m : List (S30)) : flatF (l ++ m) = flatF l ++ flatF m := List.flatMap_append
theorem own_of_fields {w : World} {base : Nat} {ok : Nat → Prop} {v : Value} {l : List (S30)} (h : Kd.R k30 30 w base ok v l) : w.ownsRow base 30 2 v l.length (flatF l) := by
  obtain ⟨_, inner, hown, hr⟩ := h
  obtain rfl := flat_of_reps l inner hr
  exact hown
theorem wp_append_fields {o : Oper} {a : Act} {K : Act → World → Prop} {Q : Exit → Act → World → Prop} {W : World} (base : Nat) (s x : Operand)
    (ho : o.op = .call { callee := .builtin .append, args := #[s, x], argTypes := #[27, 27] })
    (v : Value) (l m : List (S30)) (ad : Addr) (c : Nat) (hs : a.eval s = v) (hx : a.eval x = .slice (some ad) m.length c)
    (HO : Kd.R k30 30 W base (fun _ => True) v l) (hnews : ∀ j u, (flatF m)[j]? = some u → W.cell? (ad.add j) = some u) (hbase : base ≤ W.heap.size) (hl : l.length + m.length ≤ 2000000000)
    (h : ∀ v1 w1, Kd.R k30 30 w1 base (fun _ => True) v1 (l ++ m) → W.grownBy w1 v.ownBlock → (v1.ownBlock = v.ownBlock ∨ v1.ownBlock = some W.heap.size) → K (a.put o.dst v1) w1) :
    Oper.wp Tryd.prog o a W K Q := by
  obtain ⟨i0, hi, hz0, hz1, hz2⟩ := info_field
  obtain ⟨v', w', hr, h2, h3, h4, h5⟩ := run_append_own_at (P := Tryd.prog) W base 27 o.type 30 i0 _ 2 32 Tryd.underlying27 hi hz0 hz1 hz2 rfl (by decide) v l.length (flatF l) (own_of_fields HO) ad m.length c (flatF m) (flatF_len m) hnews (flatF_one m) (by unfold maxLen; omega) (by omega) hbase
  unfold Oper.wp execOp
  simp only [ho, resolve, invoke, builtin, Sem.run_bind, Sem.run_pure, Result.andThen_ok, List.map_toArray, List.map_cons, List.map_nil, hs, hx, hr]
  exact h v' w' (R_of_row (by rw [List.length_append, flatF_append]; exact h2)) h3 h5
theorem Clone_calls (A : Option Addr) (c : Nat) (l : List (S30)) (w : World) (hC : Kd.C k30 w A l.length l) (hl : l.length ≤ 1000000000) :
    Calls Tryd.prog 57 #[.slice A l.length c] w fun e w' => ∃ v, e = .returned v ∧ Kd.R k30 30 w' w.heap.size (fun _ => True) v l ∧ Below w.heap.size w w' := by
  cases A with
  | none =>
    have hnil : l = [] := by
      by_cases h0 : 0 < l.length
      · obtain ⟨ad, e, _⟩ := hC.2.2 h0
        cases e
      · exact List.eq_nil_of_length_eq_zero (by omega)
    subst hnil
    refine (Clone_none _ c w).mono ?_
    rintro e w1 ⟨rfl, rfl⟩
    exact ⟨_, rfl, Kd.R_nil _ _ _ _ _, Below.refl _ _⟩
  | some ad =>
    refine (Clone_some ad c l w hC hl).mono ?_
    rintro e w1 ⟨v, rfl, h1, _, h2⟩
    exact ⟨_, rfl, h1, h2⟩
end Go.Proofs.YtoikneogdbdplaaDoor.Fn
set_option linter.unusedVariables false
set_option linter.unusedSimpArgs false
namespace Go.Proofs.YtoikneogdbdplaaDoor.Fn
open Go.RowKit Go.Proofs.YtoikneogdbdplaaDoorW.PrintWords Go.Proofs.YtoikneogdbdplaaDoorW.PrintLast Go.Proofs.YtoikneogdbdplaaDoorW.PrintMore

set_option maxHeartbeats 4000000 in
set_option maxRecDepth 100000 in
theorem head_Without.some (ad : Addr) (c : Nat) (l : List (S30)) (name : ByteArray) (w : World) (hC : Kd.C k30 w (some ad) l.length l) (hl : l.length ≤ 1000000000) (hn : name.size ≤ 35184372088832) (hz : ∀ x ∈ l, x.f0.size ≤ 35184372088832) :
    Calls Tryd.prog 15 #[.slice (.some ad) l.length c, .string name] w fun e w' => ∃ g cap, e = .returned (.slice (.some ⟨g, 0, none⟩) (withoutL l name).length cap) ∧ Kd.R k30 30 w' w.heap.size (fun _ => True) (.slice (.some ⟨g, 0, none⟩) (withoutL l name).length cap) (withoutL l name) ∧ Below w.heap.size w w' := by
  have HZ := hid hz
  have HCC := hid hC
  clear hz hC
  obtain ⟨w0, hw0⟩ : ∃ w0, w.alloc (.cells #[.string name] 9) = w0 := ⟨_, rfl⟩
  have HB0 := hid (show Below w.heap.size w w0 by rw [← hw0]; exact (Below.refl _ w).alloc (Nat.le_refl _) _)
  have hs0 : w0.heap.size = w.heap.size + 1 := by rw [← hw0]; simp
  have hcell : w0.cell? ⟨w.heap.size, 0, none⟩ = .some (.string name) := by rw [← hw0]; exact (blk_cell (blk_new w _) 0).trans rfl
  have hCl := hid (Clone_some ad c l w0 (Kd.C_below HCC.out HB0.out) hl)
  go_enter Tryd.func15, Tryd.ntmps15
  go_wp2_with (first
    | (go_at_call 57; refine hCl.out.mono ?_; rintro e w1 ⟨v, rfl, hR, hne, b1⟩; obtain ⟨g, cap, rfl, hg⟩ := row_form hR hne; have hb1 := (b1.cell (p := ⟨w.heap.size, 0, none⟩) (by show w.heap.size < w0.heap.size; omega)).trans hcell)
    | (go_at_call 58; refine (DeleteFunc_calls 59 asks_without enter_without w.heap.size name g cap w0.heap.size l w1 hR hl HZ.out hn hb1 (by omega) b1.size).mono ?_; rintro e w2 ⟨m, hm, rfl, hR2, b2⟩; subst hm))
  go_ret
  exact ⟨g, cap, rfl, Kd.R_lower (base' := w.heap.size) hR2 (show w.heap.size ≤ w0.heap.size by omega), HB0.out.trans ((b1.trans b2).mono (by omega))⟩
def putL (l : List (S30)) (f0 f1 : ByteArray) : List (S30) :=
  if Pl.firstI (askN f0) l < l.length then (l.take (Pl.firstI (askN f0) l) ++ [⟨f0, f1⟩]) ++ withoutL (l.drop (Pl.firstI (askN f0) l)) f0 else l ++ [⟨f0, f1⟩]
def head_Put.f (l : List (S30)) (f0 f1 : ByteArray) : Option (List (S30)) :=
  if l.length ≤ 500000000 then (if f0.size ≤ 35184372088832 then (if l.all (fun x => decide (x.f0.size ≤ 35184372088832)) = true then some (putL l f0 f1) else none) else none) else none
def head_Put.T3 : Bool × List (List Nat × List Nat) := (true, [([], []), ([0], [0]), ([], []), ([2], [2]), ([1, 3, 1], [1, 3]), ([4, 4, 0, 1, 2, 3, 4], [4])])
def head_Put.B3 : List Nat := [0, 1, 0, 4, 15, 31]
theorem head_Put.tab3 : rtab .any (opsOf Tryd.f14 3) = head_Put.T3 := by kernel_rfl
theorem head_Put.bits3 : waitsOk head_Put.T3.2 head_Put.B3 = true := by kernel_rfl
def head_Put.T4 : Bool × List (List Nat × List Nat) := (true,
  [([], []), ([], []), ([0, 1], [0, 1]), ([2], [2]), ([], []), ([4], [4]), ([3, 5, 3], [3, 5]), ([], []), ([], []),
    ([7, 8], [7, 8]), ([], []), ([10], [10]), ([9, 11, 6], [9, 11]), ([6, 12, 12], [6, 12]),
    ([13, 13, 0, 1, 2, 3, 4, 5, 6, 7, 8, 9, 10, 11, 12, 13], [13])])
def head_Put.B4 : List Nat := [0, 0, 3, 7, 0, 16, 63, 0, 0, 384, 0, 1024, 4095, 8191, 16383]
theorem head_Put.tab4 : rtab .any (opsOf Tryd.f14 4) = head_Put.T4 := by kernel_rfl
theorem head_Put.bits4 : waitsOk head_Put.T4.2 head_Put.B4 = true := by kernel_rfl
theorem lit_cells {W : World} {g : Nat} {f0 f1 : ByteArray} (h0 : W.cell? ⟨g, 0, none⟩ = some (.string f0)) (h1 : W.cell? ⟨g, 1, none⟩ = some (.string f1)) : ∀ (j : Nat) (u : Value), (flatF [⟨f0, f1⟩])[j]? = some u → W.cell? ((⟨g, 0, none⟩ : Addr).add j) = some u
  | 0, u, h => by
    obtain rfl : Value.string f0 = u := by simpa [flatF] using h
    exact h0
  | 1, u, h => by
    obtain rfl : Value.string f1 = u := by simpa [flatF] using h
    exact h1
  | j + 2, u, h => by simp [flatF] at h
theorem lit_alloc (W : World) (f0 f1 : ByteArray) : (W.alloc (.cells #[.string f0, .string f1] 30)).cell? ⟨W.heap.size, 0, none⟩ = some (.string f0) ∧ (W.alloc (.cells #[.string f0, .string f1] 30)).cell? ⟨W.heap.size, 1, none⟩ = some (.string f1) :=
  ⟨(blk_cell (blk_new W _) 0).trans rfl, (blk_cell (blk_new W _) 1).trans rfl⟩
set_option maxHeartbeats 4000000 in
set_option maxRecDepth 100000 in
theorem head_Put.calls (A : Option Addr) (c : Nat) (l : List (S30)) (f0 f1 : ByteArray) (r : List (S30)) (w : World) (hC : Kd.C k30 w A l.length l) (hc : l.length ≤ c) (h : head_Put.f l f0 f1 = some r) :
    Calls Tryd.prog 14 #[.slice A l.length c, .agg #[.string f0, .string f1]] w fun e w' => ∃ v, e = .returned v ∧ Kd.R k30 30 w' w.heap.size (fun _ => True) v r ∧ Below w.heap.size w w' := by
  unfold head_Put.f at h
  by_cases hl : l.length ≤ 500000000
  case neg => rw [if_neg hl] at h; exact absurd h (by simp)
  rw [if_pos hl] at h
  by_cases hn : f0.size ≤ 35184372088832
  case neg => rw [if_neg hn] at h; exact absurd h (by simp)
  rw [if_pos hn] at h
  by_cases hz : l.all (fun x => decide (x.f0.size ≤ 35184372088832)) = true
  case neg => rw [if_neg hz] at h; exact absurd h (by simp)
  rw [if_pos hz] at h
  have HR := hid (Option.some.inj h)
  have HZ := hid (fun x (hx : x ∈ l) => of_decide_eq_true (List.all_eq_true.1 hz x hx))
  have HCC := hid hC
  clear h hz hC
  obtain ⟨w0, hw0⟩ : ∃ w0, w.alloc (.cells #[.string f0, .string f1] 30) = w0 := ⟨_, rfl⟩
  have HB0 := hid (show Below w.heap.size w w0 by rw [← hw0]; exact (Below.refl _ w).alloc (Nat.le_refl _) _)
  have HS0 := hid (show w0.heap.size = w.heap.size + 1 by rw [← hw0]; simp)
  have HK0 := hid (show w0.heap[w.heap.size]? = some (.cells #[.string f0, .string f1] 30 (0, 0)) by rw [← hw0]; exact blk_new w _)
  have HIF := hid (IndexFunc_calls 55 asks_put enter_put w.heap.size f0 A c l w0 (Kd.C_below HCC.out HB0.out) (by omega) HZ.out hn ((blk_cell HK0.out 0).trans rfl))
  by_cases hf : Pl.firstI (askN f0) l < l.length
  case neg =>
    have hidx : Pl.idxL (askN f0) l = -1 := by unfold Pl.idxL; rw [if_neg hf]
    have hput : putL l f0 f1 = l ++ [⟨f0, f1⟩] := by unfold putL; rw [if_neg hf]
    have HR2 := hid (hput.symm.trans HR.out)
    rw [hidx] at HIF
    clear hidx hput HR hf
    go_enter Tryd.func14, Tryd.ntmps14
    go_wp2_with (go_at_call 54; refine HIF.out.mono ?_; rintro e w1 ⟨rfl, b1⟩)
    have HB2 := hid (below_drew1 (HB0.out.trans (b1.mono (by have := HS0.out; omega))))
    have HC2 := hid (Kd.C_drew (Kd.C_below (Kd.C_below HCC.out HB0.out) b1))
    have HK2 := hid (blk_drew ((b1.block w.heap.size (by rw [HS0.out]; omega)).trans HK0.out))
    have hg2 := hid (show w.heap.size + 1 ≤ w1.drew.heap.size by have := b1.size; have := HS0.out; simp; omega)
    clear b1 HIF HK0 HS0 HB0
    refine start_ (n := 6) (S := (fun w' => w'.cell? ⟨w.heap.size, 0, none⟩ = some (.string f0) ∧ w'.cell? ⟨w.heap.size, 1, none⟩ = some (.string f1))) (ds := []) #[false, false, false, false, false, false] (by kernel_rfl) rfl rfl ⟨(blk_cell HK2.out 0).trans rfl, (blk_cell HK2.out 1).trans rfl⟩ (fun hHeld => ?_); refine with_tabW head_Put.tab3 head_Put.bits3 (fun HT_ HW_ => ?_)
    generalize w1.drew = w2 at HB2 HC2 HK2 hg2 hHeld ⊢
    refine pure_ (i := 0) (N := some 11) (v := ?_) (a' := ?_) #[true, false, false, false, false, false] rfl rfl (any_of HT_.out (by kernel_rfl)) (fun _ _ _ h => h) (Or.inl ⟨by rfl, ?_⟩) ?_ ?_
    rotate_left
    · intro w'
      go_simp
      with_reducible rfl
    rotate_left
    · simp only [Act.put, List.setIfInBounds_toArray, List.set_cons_zero, List.set_cons_succ, i64_w, i32_w]
      rfl
    refine take_ (i := 2) (N := some 13) (v := ?_) (a' := ?_) #[true, false, true, false, false, false] rfl rfl (take_ofW HT_.out HW_.out (by kernel_rfl)) (fun _ _ _ h => h) (Or.inl ⟨by rfl, ?_⟩) hHeld ?_ ?_
    rotate_left
    · rintro w' ⟨s0, s1⟩
      go_simp
      with_reducible rfl
    rotate_left
    · simp only [Act.put, List.setIfInBounds_toArray, List.set_cons_zero, List.set_cons_succ, i64_w, i32_w]
      rfl
    have HX2 := HC2
    refine join_ (σ := Value × Nat) 2 #[true, true, true, true, false, false] (fun s_ => [(12, s_.1), (14, .slice (some ⟨s_.2, 0, none⟩) 1 1)]) (fun s_ w' => Kd.R k30 30 w' (w.heap.size + 1) (fun _ => True) s_.1 l ∧ w'.cell? ⟨s_.2, 0, none⟩ = some (.string f0) ∧ w'.cell? ⟨s_.2, 1, none⟩ = some (.string f1) ∧ Below (w.heap.size + 1) w2 w') ?_ ?_
    rotate_left
    · intro hCont
      refine two_ (i := 1) (j := 3) (Ni := some 12) (Nj := some 14) #[true, true, true, false, false, false] #[true, false, true, true, false, false] rfl rfl rfl rfl (two_of HT_.out (by kernel_rfl)) (by decide) (by decide) (fun K hK => ?_) (fun K hK => ?_)
      · skip
        refine goes_ Tryd.func57 (by kernel_rfl) rfl #[.slice A l.length c] (by rfl) rfl rfl (by (try simp only [List.map_toArray, List.map_cons, List.map_nil]); first | done | rfl) ?_
        refine (Clone_calls _ _ l w2 HX2.out (by first | omega | (simp; omega))).mono ?_
        rintro e w3 ⟨v, rfl, hRv, bv⟩
        refine ⟨_, rfl, ?_⟩
        have hbx := bv.mono (show w.heap.size + 1 ≤ w2.heap.size from hg2.out)
        have hk3 := (hbx.block w.heap.size (by omega)).trans HK2.out
        refine hK.out _ _ ⟨(blk_cell hk3 0).trans rfl, (blk_cell hk3 1).trans rfl⟩ (fun hHeld3 => ?_)
        clear hK K
        refine norm_ (a' := ?_) ?_ ?_
        rotate_left
        · show Act.put _ (some 12) _ = _
          simp only [Act.put, List.setIfInBounds_toArray, List.set_cons_zero, List.set_cons_succ, i64_w, i32_w]
          rfl
        refine one_ (i := 3) (N := some 14) #[true, true, true, true, false, false] rfl rfl (one_of HT_.out (by kernel_rfl)) (by decide) (fun K hK => ?_)
        refine value_ (w1 := ?_) (v := ?_) (by rfl) rfl ?_ ?_
        rotate_left 2
        · go_simp
          constructor
          · rfl
          · rfl
        have hbx2 := hbx.alloc (show w.heap.size + 1 ≤ w3.heap.size from Nat.le_trans hg2.out hbx.size) (.cells #[.string f0, .string f1] 30)
        have hk4 := blk_alloc hk3 (.cells #[.string f0, .string f1] 30)
        refine hK.out _ _ ⟨(blk_cell hk4 0).trans rfl, (blk_cell hk4 1).trans rfl⟩ (fun hHeld4 => ?_)
        clear hK K
        refine norm_ (a' := ?_) ?_ ?_
        rotate_left
        · show Act.put _ (some 14) _ = _
          simp only [Act.put, List.setIfInBounds_toArray, List.set_cons_zero, List.set_cons_succ, i64_w, i32_w]
          rfl
        exact norm_ (by simp only [putAll, Act.put, List.setIfInBounds_toArray, List.set_cons_zero, List.set_cons_succ]) (hCont (v, w3.heap.size) _ ⟨Kd.R_alloc (Kd.R_lower hRv hg2.out) _, (lit_alloc w3 f0 f1).1, (lit_alloc w3 f0 f1).2, hbx2⟩)
      · skip
        refine value_ (w1 := ?_) (v := ?_) (by rfl) rfl ?_ ?_
        rotate_left 2
        · go_simp
          constructor
          · rfl
          · rfl
        have hb3 : Below (w.heap.size + 1) w2 (w2.alloc (.cells #[.string f0, .string f1] 30)) := (Below.refl _ w2).alloc hg2.out _
        have hC3 := Kd.C_alloc HX2.out (.cells #[.string f0, .string f1] 30)
        have hk3 := blk_alloc HK2.out (.cells #[.string f0, .string f1] 30)
        have hl3 := lit_alloc w2 f0 f1
        have hs3 : (w2.alloc (.cells #[.string f0, .string f1] 30)).heap.size = w2.heap.size + 1 := by simp
        refine hK.out _ _ ⟨(blk_cell hk3 0).trans rfl, (blk_cell hk3 1).trans rfl⟩ (fun hHeld3 => ?_)
        clear hK K
        refine norm_ (a' := ?_) ?_ ?_
        rotate_left
        · show Act.put _ (some 14) _ = _
          simp only [Act.put, List.setIfInBounds_toArray, List.set_cons_zero, List.set_cons_succ, i64_w, i32_w]
          rfl
        generalize w2.alloc (.cells #[.string f0, .string f1] 30) = w3 at hb3 hC3 hk3 hl3 hs3 hHeld3 ⊢
        refine one_ (i := 1) (N := some 12) #[true, true, true, true, false, false] rfl rfl (one_of HT_.out (by kernel_rfl)) (by decide) (fun K hK => ?_)
        refine goes_ Tryd.func57 (by kernel_rfl) rfl #[.slice A l.length c] (by rfl) rfl rfl (by (try simp only [List.map_toArray, List.map_cons, List.map_nil]); first | done | rfl) ?_
        refine (Clone_calls _ _ l w3 hC3 (by first | omega | (simp; omega))).mono ?_
        rintro e w4 ⟨v, rfl, hRv, bv⟩
        refine ⟨_, rfl, ?_⟩
        have hbx := bv.mono (show w.heap.size + 1 ≤ w3.heap.size by have := hg2.out; omega)
        have hk4 := (hbx.block w.heap.size (by omega)).trans hk3
        refine hK.out _ _ ⟨(blk_cell hk4 0).trans rfl, (blk_cell hk4 1).trans rfl⟩ (fun hHeld4 => ?_)
        clear hK K
        refine norm_ (a' := ?_) ?_ ?_
        rotate_left
        · show Act.put _ (some 12) _ = _
          simp only [Act.put, List.setIfInBounds_toArray, List.set_cons_zero, List.set_cons_succ, i64_w, i32_w]
          rfl
        exact norm_ (by simp only [putAll, Act.put, List.setIfInBounds_toArray, List.set_cons_zero, List.set_cons_succ]) (hCont (v, w2.heap.size) _ ⟨Kd.R_lower hRv (show w.heap.size + 1 ≤ w3.heap.size by have := hg2.out; omega), (bv.cell (by show w2.heap.size < w3.heap.size; omega)).trans hl3.1, (bv.cell (by show w2.heap.size < w3.heap.size; omega)).trans hl3.2, hb3.trans hbx⟩)
    rintro ⟨v12, g14⟩ w5 ⟨h5_0, h5_1, h5_2, h5_3⟩
    have HR5 := hid h5_0
    have HL5 := hid (lit_cells h5_1 h5_2)
    have HB5 := hid h5_3
    have HK5 := hid ((h5_3.block w.heap.size (by omega)).trans HK2.out)
    have hg5 := hid (show w.heap.size + 1 ≤ w5.heap.size by have := hg2.out; have := h5_3.size; omega)
    have hHeld5 : w5.cell? ⟨w.heap.size, 0, none⟩ = some (.string f0) ∧ w5.cell? ⟨w.heap.size, 1, none⟩ = some (.string f1) := ⟨(blk_cell HK5.out 0).trans rfl, (blk_cell HK5.out 1).trans rfl⟩
    clear h5_0 h5_1 h5_2 h5_3 hHeld
    have hHeld := hHeld5
    clear hHeld5
    refine norm_ (a' := ?_) ?_ ?_
    rotate_left
    · simp only [putAll, Act.put, List.setIfInBounds_toArray, List.set_cons_zero, List.set_cons_succ]
      rfl
    refine one_ (i := 4) (N := some 15) #[true, true, true, true, true, false] rfl rfl (one_of HT_.out (by kernel_rfl)) (by decide) (fun K hK => ?_)
    refine wp_append_fields (W := w5) (w.heap.size + 1) _ _ rfl v12 l [⟨f0, f1⟩] ⟨g14, 0, none⟩ _ rfl rfl HR5.out HL5.out hg5.out (by show l.length + 1 ≤ 2000000000; omega) ?_
    intro vb w6 hRb hgb hob
    have hbb : Below (w.heap.size + 1) w5 w6 := (Below.refl _ w5).grown hgb hg5.out (fun k hk => Kd.R_base HR5.out k hk)
    have HR6 := hid hRb
    have HB6 := hid ((HB5.out).trans hbb)
    have HK6 := hid ((hbb.block w.heap.size (by omega)).trans HK5.out)
    have hg6 := hid (show w.heap.size + 1 ≤ w6.heap.size from Nat.le_trans hg5.out hbb.size)
    refine hK.out _ _ ⟨(blk_cell HK6.out 0).trans rfl, (blk_cell HK6.out 1).trans rfl⟩ (fun hHeld => ?_)
    clear hK K
    refine norm_ (a' := ?_) ?_ ?_
    rotate_left
    · show Act.put _ (some 15) _ = _
      simp only [Act.put, List.setIfInBounds_toArray, List.set_cons_zero, List.set_cons_succ, i64_w, i32_w]
      rfl
    refine pure_ (i := 5) (N := some 4) (v := ?_) (a' := ?_) #[true, true, true, true, true, true] rfl rfl (any_of HT_.out (by kernel_rfl)) (fun _ _ _ h => h) (Or.inl ⟨by rfl, ?_⟩) ?_ ?_
    rotate_left
    · intro w'
      go_simp
      with_reducible rfl
    rotate_left
    · simp only [Act.put, List.setIfInBounds_toArray, List.set_cons_zero, List.set_cons_succ, i64_w, i32_w]
      rfl
    refine done_ (done_of HT_.out (by kernel_rfl)) ?_
    try go_wp2
    go_ret
    refine ⟨_, rfl, ?_, HB2.out.trans (HB6.out.mono (by omega))⟩
    rw [← HR2.out]
    exact Kd.R_lower HR6.out (by omega)
  case pos =>
    obtain ⟨i, hi⟩ : ∃ i, Pl.firstI (askN f0) l = i := ⟨_, rfl⟩
    have hidx : Pl.idxL (askN f0) l = (i : Int) := by unfold Pl.idxL; rw [if_pos hf, hi]
    have hput : putL l f0 f1 = (l.take i ++ [⟨f0, f1⟩]) ++ withoutL (l.drop i) f0 := by unfold putL; rw [if_pos hf, hi]
    have HR2 := hid (hput.symm.trans HR.out)
    rw [hidx] at HIF
    rw [hi] at hf
    clear hidx hput HR hi
    obtain ⟨ad, e0, _⟩ := HCC.out.2.2 (by omega)
    subst e0
    have c1 : decide ((i : Int) < 0) = false := decide_eq_false (by omega)
    have c2 : ((0 : Int) ≤ (i : Int)) = True := eq_true (by omega)
    have c3 : ((i : Int) ≤ (l.length : Int)) = True := eq_true (by omega)
    have c4 : ((i : Int) ≤ (c : Int)) = True := eq_true (by omega)
    have c5 : ((l.length : Int) ≤ (c : Int)) = True := eq_true (by omega)
    have c6 : (c = i) = False := eq_false (by omega)
    have c7 : (l.length ≤ c) = True := eq_true hc
    have c8 : (i ≤ c) = True := eq_true (by omega)
    have c9 : (i ≤ l.length) = True := eq_true (by omega)
    go_enter Tryd.func14, Tryd.ntmps14
    go_wp2_with (go_at_call 54; refine HIF.out.mono ?_; rintro e w1 ⟨rfl, b1⟩)
    have HB2 := hid (below_drew1 (HB0.out.trans (b1.mono (by have := HS0.out; omega))))
    have HC2 := hid (Kd.C_drew (Kd.C_below (Kd.C_below HCC.out HB0.out) b1))
    have HK2 := hid (blk_drew ((b1.block w.heap.size (by rw [HS0.out]; omega)).trans HK0.out))
    have hg2 := hid (show w.heap.size + 1 ≤ w1.drew.heap.size by have := b1.size; have := HS0.out; simp; omega)
    clear b1 HIF HK0 HS0 HB0
    refine start_ (n := 15) (S := (fun w' => w'.cell? ⟨w.heap.size, 0, none⟩ = some (.string f0) ∧ w'.cell? ⟨w.heap.size, 1, none⟩ = some (.string f1))) (ds := []) #[false, false, false, false, false, false, false, false, false, false, false, false, false, false, false] (by kernel_rfl) rfl rfl ⟨(blk_cell HK2.out 0).trans rfl, (blk_cell HK2.out 1).trans rfl⟩ (fun hHeld => ?_); refine with_tabW head_Put.tab4 head_Put.bits4 (fun HT_ HW_ => ?_)
    generalize w1.drew = w2 at HB2 HC2 HK2 hg2 hHeld ⊢
    refine pure_ (i := 0) (N := some 16) (v := ?_) (a' := ?_) #[true, false, false, false, false, false, false, false, false, false, false, false, false, false, false] rfl rfl (any_of HT_.out (by kernel_rfl)) (fun _ _ _ h => h) (Or.inl ⟨by rfl, ?_⟩) ?_ ?_
    rotate_left
    · intro w'
      go_simp
      with_reducible rfl
    rotate_left
    · simp only [Act.put, List.setIfInBounds_toArray, List.set_cons_zero, List.set_cons_succ, i64_w, i32_w]
      rfl
    refine pure_ (i := 1) (N := some 17) (v := ?_) (a' := ?_) #[true, true, false, false, false, false, false, false, false, false, false, false, false, false, false] rfl rfl (any_of HT_.out (by kernel_rfl)) (fun _ _ _ h => h) (Or.inl ⟨by rfl, ?_⟩) ?_ ?_
    rotate_left
    · intro w'
      go_simp
      with_reducible rfl
    rotate_left
    · simp only [Act.put, List.setIfInBounds_toArray, List.set_cons_zero, List.set_cons_succ, i64_w, i32_w]
      rfl
    refine pure_ (i := 2) (N := some 18) (v := ?_) (a' := ?_) #[true, true, true, false, false, false, false, false, false, false, false, false, false, false, false] rfl rfl (any_of HT_.out (by kernel_rfl)) (fun _ _ _ h => h) (Or.inl ⟨by rfl, ?_⟩) ?_ ?_
    rotate_left
    · intro w'
      go_simp
      with_reducible rfl
    rotate_left
    · simp only [Act.put, List.setIfInBounds_toArray, List.set_cons_zero, List.set_cons_succ, i64_w, i32_w]
      rfl
    refine take_ (i := 4) (N := some 20) (v := ?_) (a' := ?_) #[true, true, true, false, true, false, false, false, false, false, false, false, false, false, false] rfl rfl (take_ofW HT_.out HW_.out (by kernel_rfl)) (fun _ _ _ h => h) (Or.inl ⟨by rfl, ?_⟩) hHeld ?_ ?_
    rotate_left
    · rintro w' ⟨s0, s1⟩
      go_simp
      with_reducible rfl
    rotate_left
    · simp only [Act.put, List.setIfInBounds_toArray, List.set_cons_zero, List.set_cons_succ, i64_w, i32_w]
      rfl
    refine pure_ (i := 7) (N := some 23) (v := ?_) (a' := ?_) #[true, true, true, false, true, false, false, true, false, false, false, false, false, false, false] rfl rfl (any_of HT_.out (by kernel_rfl)) (fun _ _ _ h => h) (Or.inl ⟨by rfl, ?_⟩) ?_ ?_
    rotate_left
    · intro w'
      go_simp
      with_reducible rfl
    rotate_left
    · simp only [Act.put, List.setIfInBounds_toArray, List.set_cons_zero, List.set_cons_succ, i64_w, i32_w]
      rfl
    refine pure_ (i := 8) (N := some 24) (v := ?_) (a' := ?_) #[true, true, true, false, true, false, false, true, true, false, false, false, false, false, false] rfl rfl (any_of HT_.out (by kernel_rfl)) (fun _ _ _ h => h) (Or.inl ⟨by rfl, ?_⟩) ?_ ?_
    rotate_left
    · intro w'
      go_simp
      with_reducible rfl
    rotate_left
    · simp only [Act.put, List.setIfInBounds_toArray, List.set_cons_zero, List.set_cons_succ, i64_w, i32_w]
      rfl
    refine pure_ (i := 9) (N := some 25) (v := ?_) (a' := ?_) #[true, true, true, false, true, false, false, true, true, true, false, false, false, false, false] rfl rfl (any_of HT_.out (by kernel_rfl)) (fun _ _ _ h => h) (Or.inl ⟨by rfl, ?_⟩) ?_ ?_
    rotate_left
    · intro w'
      go_simp
      with_reducible rfl
    rotate_left
    · simp only [Act.put, List.setIfInBounds_toArray, List.set_cons_zero, List.set_cons_succ, i64_w, i32_w]
      rfl
    refine pure_ (i := 10) (N := some 26) (v := ?_) (a' := ?_) #[true, true, true, false, true, false, false, true, true, true, true, false, false, false, false] rfl rfl (any_of HT_.out (by kernel_rfl)) (fun _ _ _ h => h) (Or.inl ⟨by rfl, ?_⟩) ?_ ?_
    rotate_left
    · intro w'
      go_simp
      with_reducible rfl
    rotate_left
    · simp only [Act.put, List.setIfInBounds_toArray, List.set_cons_zero, List.set_cons_succ, i64_w, i32_w]
      rfl
    refine take_ (i := 11) (N := some 27) (v := ?_) (a' := ?_) #[true, true, true, false, true, false, false, true, true, true, true, true, false, false, false] rfl rfl (take_ofW HT_.out HW_.out (by kernel_rfl)) (fun _ _ _ h => h) (Or.inl ⟨by rfl, ?_⟩) hHeld ?_ ?_
    rotate_left
    · rintro w' ⟨s0, s1⟩
      go_simp
      with_reducible rfl
    rotate_left
    · simp only [Act.put, List.setIfInBounds_toArray, List.set_cons_zero, List.set_cons_succ, i64_w, i32_w]
      rfl
    have HX2 := hid (Kd.C_take HC2.out (show i ≤ l.length by omega))
    have hlen : (l.take i).length = i := by rw [List.length_take]; omega
    have hlen2 : (l.drop i).length = l.length - i := List.length_drop
    refine join_ (σ := Value × Nat) 4 #[true, true, true, true, true, true, false, true, true, true, true, true, false, false, false] (fun s_ => [(19, s_.1), (21, .slice (some ⟨s_.2, 0, none⟩) 1 1)]) (fun s_ w' => Kd.R k30 30 w' (w.heap.size + 1) (fun _ => True) s_.1 (l.take i) ∧ w'.cell? ⟨s_.2, 0, none⟩ = some (.string f0) ∧ w'.cell? ⟨s_.2, 1, none⟩ = some (.string f1) ∧ Below (w.heap.size + 1) w2 w') ?_ ?_
    rotate_left
    · intro hCont
      refine two_ (i := 3) (j := 5) (Ni := some 19) (Nj := some 21) #[true, true, true, true, true, false, false, true, true, true, true, true, false, false, false] #[true, true, true, false, true, true, false, true, true, true, true, true, false, false, false] rfl rfl rfl rfl (two_of HT_.out (by kernel_rfl)) (by decide) (by decide) (fun K hK => ?_) (fun K hK => ?_)
      · skip
        refine goes_ Tryd.func57 (by kernel_rfl) rfl #[.slice (some ad) i c] (by rfl) rfl rfl (by (try simp only [List.map_toArray, List.map_cons, List.map_nil]); first | done | rfl) ?_
        refine (show Calls Tryd.prog _ #[.slice (some ad) i c] w2 _ from hlen ▸ Clone_calls (some ad) c (l.take i) w2 HX2.out (by omega)).mono ?_
        rintro e w3 ⟨v, rfl, hRv, bv⟩
        refine ⟨_, rfl, ?_⟩
        have hbx := bv.mono (show w.heap.size + 1 ≤ w2.heap.size from hg2.out)
        have hk3 := (hbx.block w.heap.size (by omega)).trans HK2.out
        refine hK.out _ _ ⟨(blk_cell hk3 0).trans rfl, (blk_cell hk3 1).trans rfl⟩ (fun hHeld3 => ?_)
        clear hK K
        refine norm_ (a' := ?_) ?_ ?_
        rotate_left
        · show Act.put _ (some 19) _ = _
          simp only [Act.put, List.setIfInBounds_toArray, List.set_cons_zero, List.set_cons_succ, i64_w, i32_w]
          rfl
        refine one_ (i := 5) (N := some 21) #[true, true, true, true, true, true, false, true, true, true, true, true, false, false, false] rfl rfl (one_of HT_.out (by kernel_rfl)) (by decide) (fun K hK => ?_)
        refine value_ (w1 := ?_) (v := ?_) (by rfl) rfl ?_ ?_
        rotate_left 2
        · go_simp
          constructor
          · rfl
          · rfl
        have hbx2 := hbx.alloc (show w.heap.size + 1 ≤ w3.heap.size from Nat.le_trans hg2.out hbx.size) (.cells #[.string f0, .string f1] 30)
        have hk4 := blk_alloc hk3 (.cells #[.string f0, .string f1] 30)
        refine hK.out _ _ ⟨(blk_cell hk4 0).trans rfl, (blk_cell hk4 1).trans rfl⟩ (fun hHeld4 => ?_)
        clear hK K
        refine norm_ (a' := ?_) ?_ ?_
        rotate_left
        · show Act.put _ (some 21) _ = _
          simp only [Act.put, List.setIfInBounds_toArray, List.set_cons_zero, List.set_cons_succ, i64_w, i32_w]
          rfl
        exact norm_ (by simp only [putAll, Act.put, List.setIfInBounds_toArray, List.set_cons_zero, List.set_cons_succ]) (hCont (v, w3.heap.size) _ ⟨Kd.R_alloc (Kd.R_lower hRv hg2.out) _, (lit_alloc w3 f0 f1).1, (lit_alloc w3 f0 f1).2, hbx2⟩)
      · skip
        refine value_ (w1 := ?_) (v := ?_) (by rfl) rfl ?_ ?_
        rotate_left 2
        · go_simp
          constructor
          · rfl
          · rfl
        have hb3 : Below (w.heap.size + 1) w2 (w2.alloc (.cells #[.string f0, .string f1] 30)) := (Below.refl _ w2).alloc hg2.out _
        have hC3 := Kd.C_alloc HX2.out (.cells #[.string f0, .string f1] 30)
        have hk3 := blk_alloc HK2.out (.cells #[.string f0, .string f1] 30)
        have hl3 := lit_alloc w2 f0 f1
        have hs3 : (w2.alloc (.cells #[.string f0, .string f1] 30)).heap.size = w2.heap.size + 1 := by simp
        refine hK.out _ _ ⟨(blk_cell hk3 0).trans rfl, (blk_cell hk3 1).trans rfl⟩ (fun hHeld3 => ?_)
        clear hK K
        refine norm_ (a' := ?_) ?_ ?_
        rotate_left
        · show Act.put _ (some 21) _ = _
          simp only [Act.put, List.setIfInBounds_toArray, List.set_cons_zero, List.set_cons_succ, i64_w, i32_w]
          rfl
        generalize w2.alloc (.cells #[.string f0, .string f1] 30) = w3 at hb3 hC3 hk3 hl3 hs3 hHeld3 ⊢
        refine one_ (i := 3) (N := some 19) #[true, true, true, true, true, true, false, true, true, true, true, true, false, false, false] rfl rfl (one_of HT_.out (by kernel_rfl)) (by decide) (fun K hK => ?_)
        refine goes_ Tryd.func57 (by kernel_rfl) rfl #[.slice (some ad) i c] (by rfl) rfl rfl (by (try simp only [List.map_toArray, List.map_cons, List.map_nil]); first | done | rfl) ?_
        refine (show Calls Tryd.prog _ #[.slice (some ad) i c] w3 _ from hlen ▸ Clone_calls (some ad) c (l.take i) w3 hC3 (by omega)).mono ?_
        rintro e w4 ⟨v, rfl, hRv, bv⟩
        refine ⟨_, rfl, ?_⟩
        have hbx := bv.mono (show w.heap.size + 1 ≤ w3.heap.size by have := hg2.out; omega)
        have hk4 := (hbx.block w.heap.size (by omega)).trans hk3
        refine hK.out _ _ ⟨(blk_cell hk4 0).trans rfl, (blk_cell hk4 1).trans rfl⟩ (fun hHeld4 => ?_)
        clear hK K
        refine norm_ (a' := ?_) ?_ ?_
        rotate_left
        · show Act.put _ (some 19) _ = _
          simp only [Act.put, List.setIfInBounds_toArray, List.set_cons_zero, List.set_cons_succ, i64_w, i32_w]
          rfl
        exact norm_ (by simp only [putAll, Act.put, List.setIfInBounds_toArray, List.set_cons_zero, List.set_cons_succ]) (hCont (v, w2.heap.size) _ ⟨Kd.R_lower hRv (show w.heap.size + 1 ≤ w3.heap.size by have := hg2.out; omega), (bv.cell (by show w2.heap.size < w3.heap.size; omega)).trans hl3.1, (bv.cell (by show w2.heap.size < w3.heap.size; omega)).trans hl3.2, hb3.trans hbx⟩)
    rintro ⟨v12, g14⟩ w5 ⟨h5_0, h5_1, h5_2, h5_3⟩
    have HR5 := hid h5_0
    have HL5 := hid (lit_cells h5_1 h5_2)
    have HB5 := hid h5_3
    have HK5 := hid ((h5_3.block w.heap.size (by omega)).trans HK2.out)
    have hg5 := hid (show w.heap.size + 1 ≤ w5.heap.size by have := hg2.out; have := h5_3.size; omega)
    clear h5_0 h5_1 h5_2 h5_3 hHeld
    refine norm_ (a' := ?_) ?_ ?_
    rotate_left
    · simp only [putAll, Act.put, List.setIfInBounds_toArray, List.set_cons_zero, List.set_cons_succ]
      rfl
    refine one_ (i := 6) (N := some 22) #[true, true, true, true, true, true, true, true, true, true, true, true, false, false, false] rfl rfl (one_of HT_.out (by kernel_rfl)) (by decide) (fun K hK => ?_)
    refine wp_append_fields (W := w5) (w.heap.size + 1) _ _ rfl v12 (l.take i) [⟨f0, f1⟩] ⟨g14, 0, none⟩ _ rfl rfl HR5.out HL5.out hg5.out (by show (l.take i).length + 1 ≤ 2000000000; omega) ?_
    intro vb w6 hRb hgb hob
    have hbb : Below (w.heap.size + 1) w5 w6 := (Below.refl _ w5).grown hgb hg5.out (fun k hk => Kd.R_base HR5.out k hk)
    have HR6 := hid hRb
    have HB6 := hid ((HB5.out).trans hbb)
    have HK6 := hid ((hbb.block w.heap.size (by omega)).trans HK5.out)
    have hg6 := hid (show w.heap.size + 1 ≤ w6.heap.size from Nat.le_trans hg5.out hbb.size)
    refine hK.out _ _ ⟨(blk_cell HK6.out 0).trans rfl, (blk_cell HK6.out 1).trans rfl⟩ (fun hHeld => ?_)
    clear hK K hRb hgb hob hbb HR5 HL5 HK5 hg5
    refine norm_ (a' := ?_) ?_ ?_
    rotate_left
    · show Act.put _ (some 22) _ = _
      simp only [Act.put, List.setIfInBounds_toArray, List.set_cons_zero, List.set_cons_succ, i64_w, i32_w]
      rfl
    have HD6 : Hid (Kd.C k30 w6 (some (ad.add (i * 2))) (l.drop i).length (l.drop i)) := by
      have h := Kd.C_below (Kd.C_drop HCC.out (show i ≤ l.length by omega) hc) (HB2.out.trans (HB6.out.mono (Nat.le_succ _)))
      rw [if_neg (by omega)] at h
      exact h
    refine one_ (i := 12) (N := some 28) #[true, true, true, true, true, true, true, true, true, true, true, true, true, false, false] rfl rfl (one_of HT_.out (by kernel_rfl)) (by decide) (fun K hK => ?_)
    refine goes_ Tryd.func15 (by kernel_rfl) rfl #[.slice (some (ad.add (i * 2))) (l.length - i) (c - i), .string f0] (by rfl) rfl rfl (by (try simp only [List.map_toArray, List.map_cons, List.map_nil]); first | done | rfl) ?_
    refine (show Calls Tryd.prog _ #[.slice (some (ad.add (i * 2))) (l.length - i) (c - i), .string f0] w6 _ from hlen2 ▸ head_Without.some (ad.add (i * 2)) (c - i) (l.drop i) f0 w6 HD6.out (by omega) hn (fun x hx => HZ.out x (List.mem_of_mem_drop hx))).mono ?_
    rintro e w7 ⟨g28, c28, rfl, hR28, bv⟩
    refine ⟨_, rfl, ?_⟩
    have HN7 := hid (flat_cells (Kd.R_reads' hR28).2.2)
    have HR7 := hid (Kd.R_below HR6.out bv)
    have HB7 := hid (HB6.out.trans (bv.mono hg6.out))
    have HK7 := hid ((bv.block w.heap.size (by have := hg6.out; omega)).trans HK6.out)
    have hg7 := hid (show w.heap.size + 1 ≤ w7.heap.size from Nat.le_trans hg6.out bv.size)
    refine hK.out _ _ ⟨(blk_cell HK7.out 0).trans rfl, (blk_cell HK7.out 1).trans rfl⟩ (fun hHeld => ?_)
    clear hK K hR28 bv HR6 HD6 HK6
    refine norm_ (a' := ?_) ?_ ?_
    rotate_left
    · show Act.put _ (some 28) _ = _
      simp only [Act.put, List.setIfInBounds_toArray, List.set_cons_zero, List.set_cons_succ, i64_w, i32_w]
      rfl
    have hw28 : (withoutL (l.drop i) f0).length ≤ l.length := Nat.le_trans (List.length_filter_le _ _) (by omega)
    refine one_ (i := 13) (N := some 29) #[true, true, true, true, true, true, true, true, true, true, true, true, true, true, false] rfl rfl (one_of HT_.out (by kernel_rfl)) (by decide) (fun K hK => ?_)
    refine wp_append_fields (W := w7) (w.heap.size + 1) _ _ rfl vb (l.take i ++ [⟨f0, f1⟩]) (withoutL (l.drop i) f0) ⟨g28, 0, none⟩ _ rfl rfl HR7.out HN7.out hg7.out (by rw [List.length_append]; show (l.take i).length + 1 + _ ≤ 2000000000; omega) ?_
    intro vc w8 hRc hgc hoc
    have hbc : Below (w.heap.size + 1) w7 w8 := (Below.refl _ w7).grown hgc hg7.out (fun k hk => Kd.R_base HR7.out k hk)
    have HR8 := hid hRc
    have HB8 := hid ((HB7.out).trans hbc)
    have HK8 := hid ((hbc.block w.heap.size (by omega)).trans HK7.out)
    refine hK.out _ _ ⟨(blk_cell HK8.out 0).trans rfl, (blk_cell HK8.out 1).trans rfl⟩ (fun hHeld => ?_)
    clear hK K hRc hgc hoc hbc HR7 HN7
    refine norm_ (a' := ?_) ?_ ?_
    rotate_left
    · show Act.put _ (some 29) _ = _
      simp only [Act.put, List.setIfInBounds_toArray, List.set_cons_zero, List.set_cons_succ, i64_w, i32_w]
      rfl
    refine pure_ (i := 14) (N := some 4) (v := ?_) (a' := ?_) #[true, true, true, true, true, true, true, true, true, true, true, true, true, true, true] rfl rfl (any_of HT_.out (by kernel_rfl)) (fun _ _ _ h => h) (Or.inl ⟨by rfl, ?_⟩) ?_ ?_
    rotate_left
    · intro w'
      go_simp
      with_reducible rfl
    rotate_left
    · simp only [Act.put, List.setIfInBounds_toArray, List.set_cons_zero, List.set_cons_succ, i64_w, i32_w]
      rfl
    refine done_ (done_of HT_.out (by kernel_rfl)) ?_
    try go_wp2
    go_ret
    refine ⟨_, rfl, ?_, HB2.out.trans (HB8.out.mono (by omega))⟩
    rw [← HR2.out]
    exact Kd.R_lower HR8.out (by omega)
end Go.Proofs.YtoikneogdbdplaaDoor.Fn
