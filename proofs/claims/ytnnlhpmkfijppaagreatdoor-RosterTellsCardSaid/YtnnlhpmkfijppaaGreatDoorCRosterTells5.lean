/- A part of the proof of this sentence: What any member is, gets and becomes by a bounce and when it is well, a new one, and the words of modes, are as the document has them -/
import Derived.Test.YtnnlhpmkfijppaaGreatDoorCRosterTells4
import Derived.Deep.SlicePairs
import Derived.ProofKit
import Derived.OpenShut
import Derived.SizedLaws
import Derived.Lib.SmallJoins
namespace Go.Proofs.YtnnlhpmkfijppaaGreatDoor.Fn
open Go.RowKit Go.Proofs.YtnnlhpmkfijppaaGreatDoorW.PrintWords Go.Proofs.YtnnlhpmkfijppaaGreatDoorW.PrintLast Go.Proofs.YtnnlhpmkfijppaaGreatDoorW.PrintMore
attribute [local go_sem] max2_int min2_int max_two min_two max_three min_three max_four min_four
set_option linter.unusedVariables false
set_option linter.unusedSimpArgs false
def bulletinlaw33_To.f (a0_0 : ByteArray) (a0_1 : ByteArray) (a0_2 : Int) (a0_3 : Bool) (a0_4 : Int) (a0_5 : Int) (a0_6 : Int) (a0_7 : Int) : Option (ByteArray × ByteArray × Int × Bool × Int × Int × Int × Int) := (bulletinlaw13_To.f a0_0 a0_1).bind fun bt486 => (some (bt486.1, bt486.2, a0_2, a0_3, a0_4, a0_5, a0_6, a0_7))
def bulletinlaw33_To.T1 : Bool × List (List Nat × List Nat) := (true, [([], []), ([0], [0]), ([1], [1]), ([], []), ([3], [3]), ([], []), ([5], [5]), ([], []), ([7], [7]), ([], []), ([9], [9]), ([], []), ([11], [11]), ([], []), ([13], [13]), ([2, 4, 6, 8, 10, 12, 14], [2, 4, 6, 8, 10, 12, 14]), ([15, 2, 0, 1, 2, 3, 4, 5, 6, 7, 8, 9, 10, 11, 12, 13, 14, 15], [15])])
def bulletinlaw33_To.B1 : List Nat := [0, 1, 3, 0, 8, 0, 32, 0, 128, 0, 512, 0, 2048, 0, 8192, 32767, 65535]
theorem bulletinlaw33_To.tab1 : rtab .any (opsOf Tryz.f8 1) = bulletinlaw33_To.T1 := by kernel_rfl
theorem bulletinlaw33_To.bits1 : waitsOk bulletinlaw33_To.T1.2 bulletinlaw33_To.B1 = true := by kernel_rfl
set_option maxHeartbeats 8000000 in
set_option maxRecDepth 100000 in
theorem bulletinlaw33_To.calls (a0_0 : ByteArray) (a0_1 : ByteArray) (a0_2 : Int) (a0_3 : Bool) (a0_4 : Int) (a0_5 : Int) (a0_6 : Int) (a0_7 : Int) (r1 : ByteArray) (r2 : ByteArray) (r3 : Int) (r4 : Bool) (r5 : Int) (r6 : Int) (r7 : Int) (r8 : Int) (w : World) (h : bulletinlaw33_To.f a0_0 a0_1 a0_2 a0_3 a0_4 a0_5 a0_6 a0_7 = some (r1, r2, r3, r4, r5, r6, r7, r8)) :
  Calls Tryz.prog 8 #[.agg #[.string a0_0, .string a0_1, .int .i64 a0_2, .bool a0_3, .int .i64 a0_4, .int .i64 a0_5, .int .i64 a0_6, .int .i64 a0_7]] w fun e w' => e = .returned (.agg #[.string r1, .string r2, .int .i64 r3, .bool r4, .int .i64 r5, .int .i64 r6, .int .i64 r7, .int .i64 r8]) ∧ Below w.heap.size w w' := by
 have hu25 := Tryz.underlying25; have hu29 := Tryz.underlying29; have hu23 := Tryz.underlying23; have HB := Aside0.mk (Below.refl w.heap.size w); have H : ((bulletinlaw13_To.f a0_0 a0_1).bind fun bt486 => (some (bt486.1, bt486.2, a0_2, a0_3, a0_4, a0_5, a0_6, a0_7))) = some (r1, r2, r3, r4, r5, r6, r7, r8) := h; clear h; replace H := Option.bind_eq_some_iff.mp H; obtain ⟨⟨t486, t487⟩, A20, H⟩ := H; replace H : (some (t486, t487, a0_2, a0_3, a0_4, a0_5, a0_6, a0_7)) = some (r1, r2, r3, r4, r5, r6, r7, r8) := H; have A2 := Aside0.mk A20; clear A20; simp only [Option.some.injEq, Prod.mk.injEq] at H; obtain ⟨rfl, rfl, rfl, rfl, rfl, rfl, rfl, rfl⟩ := H
 go_enter Tryz.func8, Tryz.ntmps8
 try go_wp2_with (first | ((with_reducible refine gate_dst (N := 1) rfl ?_); refine box_event ?hg (N := 1) ?hd (cs := #[.string a0_0, .string a0_1, .int .i64 a0_2, .bool a0_3, .int .i64 a0_4, .int .i64 a0_5, .int .i64 a0_6, .int .i64 a0_7]) (t := 25) ?hr ?_; (case hd => rfl); (case hg => rfl); (case hr => first | (go_simp; done) | (go_simp; rfl)); intro gb484 hg w3 hbox hb; have n0_ := Aside0.mk (below_step bw hb); have n1_ := Aside0.mk (hbox); have n2_ := Aside0.mk ((by rw [hg]; exact (below_size bw) : w.heap.size ≤ gb484)); have n3_ := Aside0.mk ((by rw [hg]; exact (below_size bw) : w.heap.size ≤ gb484)); clear HB; have HB := n0_; have BK484 := n1_; have GW484 := n2_; have GE484 := n3_; clear n0_ n1_ n2_ n3_; clear hb hbox hg) | ((with_reducible refine gate_dst (N := 2) rfl ?_); refine box_event ?hg (N := 2) ?hd (cs := #[.string (⟨#[]⟩ : ByteArray), .string (⟨#[]⟩ : ByteArray), .int .i64 0, .bool false, .int .i64 0, .int .i64 0, .int .i64 0, .int .i64 0]) (t := 29) ?hr ?_; (case hd => rfl); (case hg => rfl); (case hr => first | (go_simp; done) | (go_simp; rfl)); intro gb485 hg w4 hbox hb; have n0_ := Aside0.mk (blk_below (g := gb484) (o := .cells #[.string a0_0, .string a0_1, .int .i64 a0_2, .bool a0_3, .int .i64 a0_4, .int .i64 a0_5, .int .i64 a0_6, .int .i64 a0_7] 25 (0, 0)) bk hb); have n1_ := Aside0.mk (below_step bwS hb); have n2_ := Aside0.mk (hbox); have n3_ := Aside0.mk ((by rw [hg]; exact (below_size bwS) : w.heap.size ≤ gb485)); have n4_ := Aside0.mk ((by rw [hg]; exact (below_size bwS) : w.heap.size ≤ gb485)); have n5_ := Aside0.mk ((by rw [hg]; exact Nat.ne_of_lt (blk_lt (g := gb484) (o := .cells #[.string a0_0, .string a0_1, .int .i64 a0_2, .bool a0_3, .int .i64 a0_4, .int .i64 a0_5, .int .i64 a0_6, .int .i64 a0_7] 25 (0, 0)) bk) : gb484 ≠ gb485)); have n6_ := Aside0.mk ((by rw [hg]; exact Nat.ne_of_gt (blk_lt (g := gb484) (o := .cells #[.string a0_0, .string a0_1, .int .i64 a0_2, .bool a0_3, .int .i64 a0_4, .int .i64 a0_5, .int .i64 a0_6, .int .i64 a0_7] 25 (0, 0)) bk) : gb485 ≠ gb484)); clear BK484; clear HB; have BK484 := n0_; have HB := n1_; have BK485 := n2_; have GW485 := n3_; have GE485 := n4_; have NB484_485 := n5_; have NB485_484 := n6_; clear n0_ n1_ n2_ n3_ n4_ n5_ n6_; clear hb hbox hg))
 have n0_ := Aside0.mk (blk_drew BK484.out); have n1_ := Aside0.mk (blk_drew BK485.out); have n2_ := Aside0.mk (below_drew1 HB.out); clear BK484 BK485 HB; have BK484 := n0_; have BK485 := n1_; have HB := n2_; clear n0_ n1_ n2_; refine start_ (n := 17) (S := fun w' => w'.cell? ⟨gb484, 0, none⟩ = some (.string a0_0) ∧ w'.cell? ⟨gb484, 1, none⟩ = some (.string a0_1) ∧ w'.cell? ⟨gb484, 2, none⟩ = some (.int .i64 a0_2) ∧ w'.cell? ⟨gb484, 3, none⟩ = some (.bool a0_3) ∧ w'.cell? ⟨gb484, 4, none⟩ = some (.int .i64 a0_4) ∧ w'.cell? ⟨gb484, 5, none⟩ = some (.int .i64 a0_5) ∧ w'.cell? ⟨gb484, 6, none⟩ = some (.int .i64 a0_6) ∧ w'.cell? ⟨gb484, 7, none⟩ = some (.int .i64 a0_7)) (ds := []) #[false, false, false, false, false, false, false, false, false, false, false, false, false, false, false, false, false] (by kernel_rfl) rfl rfl ⟨(blk_cell BK484.out 0).trans rfl, (blk_cell BK484.out 1).trans rfl, (blk_cell BK484.out 2).trans rfl, (blk_cell BK484.out 3).trans rfl, (blk_cell BK484.out 4).trans rfl, (blk_cell BK484.out 5).trans rfl, (blk_cell BK484.out 6).trans rfl, (blk_cell BK484.out 7).trans rfl⟩ (fun hHeld => ?_); refine with_tabW bulletinlaw33_To.tab1 bulletinlaw33_To.bits1 (fun HT_ HW_ => ?_)
 generalize w4.drew = w5 at BK484 BK485 HB hHeld ⊢
 refine pure_ (i := 0) (N := some 3) (v := ?_) (a' := ?_) (bitsL 17 1) rfl rfl (any_of HT_.out (by kernel_rfl)) (fun _ _ _ h => h) (Or.inl ⟨by rfl, ?_⟩) ?_ ?_; rotate_left
 ·intro w'; go_simp; with_reducible rfl
 rotate_left
 ·simp only [Act.put, List.setIfInBounds_toArray, List.set_cons_zero, List.set_cons_succ, i64_w, i32_w]; rfl
 refine pure_ (i := 3) (N := some 6) (v := ?_) (a' := ?_) (bitsL 17 9) rfl rfl (any_of HT_.out (by kernel_rfl)) (fun _ _ _ h => h) (Or.inl ⟨by rfl, ?_⟩) ?_ ?_; rotate_left
 ·intro w'; go_simp; with_reducible rfl
 rotate_left
 ·simp only [Act.put, List.setIfInBounds_toArray, List.set_cons_zero, List.set_cons_succ, i64_w, i32_w]; rfl
 refine pure_ (i := 5) (N := some 8) (v := ?_) (a' := ?_) (bitsL 17 41) rfl rfl (any_of HT_.out (by kernel_rfl)) (fun _ _ _ h => h) (Or.inl ⟨by rfl, ?_⟩) ?_ ?_; rotate_left
 ·intro w'; go_simp; with_reducible rfl
 rotate_left
 ·simp only [Act.put, List.setIfInBounds_toArray, List.set_cons_zero, List.set_cons_succ, i64_w, i32_w]; rfl
 refine pure_ (i := 7) (N := some 10) (v := ?_) (a' := ?_) (bitsL 17 169) rfl rfl (any_of HT_.out (by kernel_rfl)) (fun _ _ _ h => h) (Or.inl ⟨by rfl, ?_⟩) ?_ ?_; rotate_left
 ·intro w'; go_simp; with_reducible rfl
 rotate_left
 ·simp only [Act.put, List.setIfInBounds_toArray, List.set_cons_zero, List.set_cons_succ, i64_w, i32_w]; rfl
 refine pure_ (i := 9) (N := some 12) (v := ?_) (a' := ?_) (bitsL 17 681) rfl rfl (any_of HT_.out (by kernel_rfl)) (fun _ _ _ h => h) (Or.inl ⟨by rfl, ?_⟩) ?_ ?_; rotate_left
 ·intro w'; go_simp; with_reducible rfl
 rotate_left
 ·simp only [Act.put, List.setIfInBounds_toArray, List.set_cons_zero, List.set_cons_succ, i64_w, i32_w]; rfl
 refine pure_ (i := 11) (N := some 14) (v := ?_) (a' := ?_) (bitsL 17 2729) rfl rfl (any_of HT_.out (by kernel_rfl)) (fun _ _ _ h => h) (Or.inl ⟨by rfl, ?_⟩) ?_ ?_; rotate_left
 ·intro w'; go_simp; with_reducible rfl
 rotate_left
 ·simp only [Act.put, List.setIfInBounds_toArray, List.set_cons_zero, List.set_cons_succ, i64_w, i32_w]; rfl
 refine pure_ (i := 13) (N := some 16) (v := ?_) (a' := ?_) (bitsL 17 10921) rfl rfl (any_of HT_.out (by kernel_rfl)) (fun _ _ _ h => h) (Or.inl ⟨by rfl, ?_⟩) ?_ ?_; rotate_left
 ·intro w'; go_simp; with_reducible rfl
 rotate_left
 ·simp only [Act.put, List.setIfInBounds_toArray, List.set_cons_zero, List.set_cons_succ, i64_w, i32_w]; rfl
 refine take_ (i := 1) (N := some 4) (v := ?_) (a' := ?_) (bitsL 17 10923) rfl rfl (take_ofW HT_.out HW_.out (by kernel_rfl)) (fun _ _ _ h => h) (Or.inl ⟨by rfl, ?_⟩) hHeld ?_ ?_; rotate_left
 ·rintro w' ⟨s0, s1, s2, s3, s4, s5, s6, s7⟩; go_simp; with_reducible rfl
 rotate_left
 ·simp only [Act.put, List.setIfInBounds_toArray, List.set_cons_zero, List.set_cons_succ, i64_w, i32_w]; rfl
 refine take_ (i := 4) (N := some 7) (v := ?_) (a' := ?_) (bitsL 17 10939) rfl rfl (take_ofW HT_.out HW_.out (by kernel_rfl)) (fun _ _ _ h => h) (Or.inl ⟨by rfl, ?_⟩) hHeld ?_ ?_; rotate_left
 ·rintro w' ⟨s0, s1, s2, s3, s4, s5, s6, s7⟩; go_simp; with_reducible rfl
 rotate_left
 ·simp only [Act.put, List.setIfInBounds_toArray, List.set_cons_zero, List.set_cons_succ, i64_w, i32_w]; rfl
 refine take_ (i := 6) (N := some 9) (v := ?_) (a' := ?_) (bitsL 17 11003) rfl rfl (take_ofW HT_.out HW_.out (by kernel_rfl)) (fun _ _ _ h => h) (Or.inl ⟨by rfl, ?_⟩) hHeld ?_ ?_; rotate_left
 ·rintro w' ⟨s0, s1, s2, s3, s4, s5, s6, s7⟩; go_simp; with_reducible rfl
 rotate_left
 ·simp only [Act.put, List.setIfInBounds_toArray, List.set_cons_zero, List.set_cons_succ, i64_w, i32_w]; rfl
 refine take_ (i := 8) (N := some 11) (v := ?_) (a' := ?_) (bitsL 17 11259) rfl rfl (take_ofW HT_.out HW_.out (by kernel_rfl)) (fun _ _ _ h => h) (Or.inl ⟨by rfl, ?_⟩) hHeld ?_ ?_; rotate_left
 ·rintro w' ⟨s0, s1, s2, s3, s4, s5, s6, s7⟩; go_simp; with_reducible rfl
 rotate_left
 ·simp only [Act.put, List.setIfInBounds_toArray, List.set_cons_zero, List.set_cons_succ, i64_w, i32_w]; rfl
 refine take_ (i := 10) (N := some 13) (v := ?_) (a' := ?_) (bitsL 17 12283) rfl rfl (take_ofW HT_.out HW_.out (by kernel_rfl)) (fun _ _ _ h => h) (Or.inl ⟨by rfl, ?_⟩) hHeld ?_ ?_; rotate_left
 ·rintro w' ⟨s0, s1, s2, s3, s4, s5, s6, s7⟩; go_simp; with_reducible rfl
 rotate_left
 ·simp only [Act.put, List.setIfInBounds_toArray, List.set_cons_zero, List.set_cons_succ, i64_w, i32_w]; rfl
 refine take_ (i := 12) (N := some 15) (v := ?_) (a' := ?_) (bitsL 17 16379) rfl rfl (take_ofW HT_.out HW_.out (by kernel_rfl)) (fun _ _ _ h => h) (Or.inl ⟨by rfl, ?_⟩) hHeld ?_ ?_; rotate_left
 ·rintro w' ⟨s0, s1, s2, s3, s4, s5, s6, s7⟩; go_simp; with_reducible rfl
 rotate_left
 ·simp only [Act.put, List.setIfInBounds_toArray, List.set_cons_zero, List.set_cons_succ, i64_w, i32_w]; rfl
 refine take_ (i := 14) (N := some 17) (v := ?_) (a' := ?_) (bitsL 17 32763) rfl rfl (take_ofW HT_.out HW_.out (by kernel_rfl)) (fun _ _ _ h => h) (Or.inl ⟨by rfl, ?_⟩) hHeld ?_ ?_; rotate_left
 ·rintro w' ⟨s0, s1, s2, s3, s4, s5, s6, s7⟩; go_simp; with_reducible rfl
 rotate_left
 ·simp only [Act.put, List.setIfInBounds_toArray, List.set_cons_zero, List.set_cons_succ, i64_w, i32_w]; rfl
 refine one_ (i := 2) (N := some 5) (bitsL 17 32767) rfl rfl (one_of HT_.out (by kernel_rfl)) (by decide) (fun K hK => ?_); refine goes_ Tryz.func32 (by kernel_rfl) rfl #[.agg #[.string a0_0, .string a0_1]] (by rfl) rfl rfl am ?_; with_reducible refine (bulletinlaw13_To.calls a0_0 a0_1 t486 t487 _ A2.out).mono ?_
 rintro e w6 ⟨rfl, hb⟩; refine ⟨_, rfl, ?_⟩; have n0_ := Aside0.mk (blk_below (g := gb484) (o := .cells #[.string a0_0, .string a0_1, .int .i64 a0_2, .bool a0_3, .int .i64 a0_4, .int .i64 a0_5, .int .i64 a0_6, .int .i64 a0_7] 25 (0, 0)) bk hb); have n1_ := Aside0.mk (blk_below (g := gb485) (o := .cells #[.string (⟨#[]⟩ : ByteArray), .string (⟨#[]⟩ : ByteArray), .int .i64 0, .bool false, .int .i64 0, .int .i64 0, .int .i64 0, .int .i64 0] 29 (0, 0)) bk hb); have n2_ := Aside0.mk (below_step bwS hb); clear BK484 BK485 HB; have BK484 := n0_; have BK485 := n1_; have HB := n2_; clear n0_ n1_ n2_
 (try clear hb)
 (try clear hb2)
 (try clear hk)
 (try clear hi)
 refine hK.out _ _ ⟨(blk_cell BK484.out 0).trans rfl, (blk_cell BK484.out 1).trans rfl, (blk_cell BK484.out 2).trans rfl, (blk_cell BK484.out 3).trans rfl, (blk_cell BK484.out 4).trans rfl, (blk_cell BK484.out 5).trans rfl, (blk_cell BK484.out 6).trans rfl, (blk_cell BK484.out 7).trans rfl⟩ (fun hHeld => ?_); clear hK K; refine norm_ (a' := ?_) ?_ ?_; rotate_left
 ·show Act.put _ (some 5) _ = _
  simp only [Act.put, List.setIfInBounds_toArray, List.set_cons_zero, List.set_cons_succ, i64_w, i32_w]; rfl
 refine pure_ (i := 15) (N := some 18) (v := ?_) (a' := ?_) (bitsL 17 65535) rfl rfl (any_of HT_.out (by kernel_rfl)) (fun _ _ _ h => h) (Or.inl ⟨by rfl, ?_⟩) ?_ ?_; rotate_left
 ·intro w'; go_simp; with_reducible rfl
 rotate_left
 ·simp only [Act.put, List.setIfInBounds_toArray, List.set_cons_zero, List.set_cons_succ, i64_w, i32_w]; rfl
 refine one_ (i := 16) (N := none) (bitsL 17 131071) rfl rfl (one_of HT_.out (by kernel_rfl)) (by decide) (fun K hK => ?_); have hs7 : w6.cell? ⟨gb485, 0, none⟩ = some (.string (⟨#[]⟩ : ByteArray)) := (blk_cell BK485.out 0).trans rfl; have hfs7 := blk_frozen BK485.out 0; have hns7_0 := NB484_485.out; have hms7_0 := NB485_484.out; have hs8 : w6.cell? ⟨gb485, 1, none⟩ = some (.string (⟨#[]⟩ : ByteArray)) := (blk_cell BK485.out 1).trans rfl; have hfs8 := blk_frozen BK485.out 1; have hns8_0 := NB484_485.out; have hms8_0 := NB485_484.out; have hs9 : w6.cell? ⟨gb485, 2, none⟩ = some (.int .i64 0) := (blk_cell BK485.out 2).trans rfl; have hfs9 := blk_frozen BK485.out 2; have hns9_0 := NB484_485.out; have hms9_0 := NB485_484.out; have hs10 : w6.cell? ⟨gb485, 3, none⟩ = some (.bool false) := (blk_cell BK485.out 3).trans rfl; have hfs10 := blk_frozen BK485.out 3; have hns10_0 := NB484_485.out; have hms10_0 := NB485_484.out; have hs11 : w6.cell? ⟨gb485, 4, none⟩ = some (.int .i64 0) := (blk_cell BK485.out 4).trans rfl; have hfs11 := blk_frozen BK485.out 4; have hns11_0 := NB484_485.out; have hms11_0 := NB485_484.out; have hs12 : w6.cell? ⟨gb485, 5, none⟩ = some (.int .i64 0) := (blk_cell BK485.out 5).trans rfl; have hfs12 := blk_frozen BK485.out 5; have hns12_0 := NB484_485.out; have hms12_0 := NB485_484.out; have hs13 : w6.cell? ⟨gb485, 6, none⟩ = some (.int .i64 0) := (blk_cell BK485.out 6).trans rfl; have hfs13 := blk_frozen BK485.out 6; have hns13_0 := NB484_485.out; have hms13_0 := NB485_484.out; have hs14 : w6.cell? ⟨gb485, 7, none⟩ = some (.int .i64 0) := (blk_cell BK485.out 7).trans rfl; have hfs14 := blk_frozen BK485.out 7; have hns14_0 := NB484_485.out; have hms14_0 := NB485_484.out; refine skip_ (w1 := ?_) (by rfl) rfl ?_ ?_; rotate_left
 ·go_simp; rfl
 refine hK.out _ _ ⟨((cell_far (p := ⟨gb485, _, none⟩) NB484_485.out _).trans (((cell_far (p := ⟨gb485, _, none⟩) NB484_485.out _).trans (((cell_far (p := ⟨gb485, _, none⟩) NB484_485.out _).trans (((cell_far (p := ⟨gb485, _, none⟩) NB484_485.out _).trans (((cell_far (p := ⟨gb485, _, none⟩) NB484_485.out _).trans (((cell_far (p := ⟨gb485, _, none⟩) NB484_485.out _).trans (((cell_far (p := ⟨gb485, _, none⟩) NB484_485.out _).trans (((cell_far (p := ⟨gb485, _, none⟩) NB484_485.out _).trans (hHeld.1)))))))))))))))), ((cell_far (p := ⟨gb485, _, none⟩) NB484_485.out _).trans (((cell_far (p := ⟨gb485, _, none⟩) NB484_485.out _).trans (((cell_far (p := ⟨gb485, _, none⟩) NB484_485.out _).trans (((cell_far (p := ⟨gb485, _, none⟩) NB484_485.out _).trans (((cell_far (p := ⟨gb485, _, none⟩) NB484_485.out _).trans (((cell_far (p := ⟨gb485, _, none⟩) NB484_485.out _).trans (((cell_far (p := ⟨gb485, _, none⟩) NB484_485.out _).trans (((cell_far (p := ⟨gb485, _, none⟩) NB484_485.out _).trans (hHeld.2.1)))))))))))))))), ((cell_far (p := ⟨gb485, _, none⟩) NB484_485.out _).trans (((cell_far (p := ⟨gb485, _, none⟩) NB484_485.out _).trans (((cell_far (p := ⟨gb485, _, none⟩) NB484_485.out _).trans (((cell_far (p := ⟨gb485, _, none⟩) NB484_485.out _).trans (((cell_far (p := ⟨gb485, _, none⟩) NB484_485.out _).trans (((cell_far (p := ⟨gb485, _, none⟩) NB484_485.out _).trans (((cell_far (p := ⟨gb485, _, none⟩) NB484_485.out _).trans (((cell_far (p := ⟨gb485, _, none⟩) NB484_485.out _).trans (hHeld.2.2.1)))))))))))))))), ((cell_far (p := ⟨gb485, _, none⟩) NB484_485.out _).trans (((cell_far (p := ⟨gb485, _, none⟩) NB484_485.out _).trans (((cell_far (p := ⟨gb485, _, none⟩) NB484_485.out _).trans (((cell_far (p := ⟨gb485, _, none⟩) NB484_485.out _).trans (((cell_far (p := ⟨gb485, _, none⟩) NB484_485.out _).trans (((cell_far (p := ⟨gb485, _, none⟩) NB484_485.out _).trans (((cell_far (p := ⟨gb485, _, none⟩) NB484_485.out _).trans (((cell_far (p := ⟨gb485, _, none⟩) NB484_485.out _).trans (hHeld.2.2.2.1)))))))))))))))), ((cell_far (p := ⟨gb485, _, none⟩) NB484_485.out _).trans (((cell_far (p := ⟨gb485, _, none⟩) NB484_485.out _).trans (((cell_far (p := ⟨gb485, _, none⟩) NB484_485.out _).trans (((cell_far (p := ⟨gb485, _, none⟩) NB484_485.out _).trans (((cell_far (p := ⟨gb485, _, none⟩) NB484_485.out _).trans (((cell_far (p := ⟨gb485, _, none⟩) NB484_485.out _).trans (((cell_far (p := ⟨gb485, _, none⟩) NB484_485.out _).trans (((cell_far (p := ⟨gb485, _, none⟩) NB484_485.out _).trans (hHeld.2.2.2.2.1)))))))))))))))), ((cell_far (p := ⟨gb485, _, none⟩) NB484_485.out _).trans (((cell_far (p := ⟨gb485, _, none⟩) NB484_485.out _).trans (((cell_far (p := ⟨gb485, _, none⟩) NB484_485.out _).trans (((cell_far (p := ⟨gb485, _, none⟩) NB484_485.out _).trans (((cell_far (p := ⟨gb485, _, none⟩) NB484_485.out _).trans (((cell_far (p := ⟨gb485, _, none⟩) NB484_485.out _).trans (((cell_far (p := ⟨gb485, _, none⟩) NB484_485.out _).trans (((cell_far (p := ⟨gb485, _, none⟩) NB484_485.out _).trans (hHeld.2.2.2.2.2.1)))))))))))))))), ((cell_far (p := ⟨gb485, _, none⟩) NB484_485.out _).trans (((cell_far (p := ⟨gb485, _, none⟩) NB484_485.out _).trans (((cell_far (p := ⟨gb485, _, none⟩) NB484_485.out _).trans (((cell_far (p := ⟨gb485, _, none⟩) NB484_485.out _).trans (((cell_far (p := ⟨gb485, _, none⟩) NB484_485.out _).trans (((cell_far (p := ⟨gb485, _, none⟩) NB484_485.out _).trans (((cell_far (p := ⟨gb485, _, none⟩) NB484_485.out _).trans (((cell_far (p := ⟨gb485, _, none⟩) NB484_485.out _).trans (hHeld.2.2.2.2.2.2.1)))))))))))))))), ((cell_far (p := ⟨gb485, _, none⟩) NB484_485.out _).trans (((cell_far (p := ⟨gb485, _, none⟩) NB484_485.out _).trans (((cell_far (p := ⟨gb485, _, none⟩) NB484_485.out _).trans (((cell_far (p := ⟨gb485, _, none⟩) NB484_485.out _).trans (((cell_far (p := ⟨gb485, _, none⟩) NB484_485.out _).trans (((cell_far (p := ⟨gb485, _, none⟩) NB484_485.out _).trans (((cell_far (p := ⟨gb485, _, none⟩) NB484_485.out _).trans (((cell_far (p := ⟨gb485, _, none⟩) NB484_485.out _).trans (hHeld.2.2.2.2.2.2.2))))))))))))))))⟩ (fun hHeld => ?_); clear hK K; refine done_ (done_of HT_.out (by kernel_rfl)) ?_
 try go_wp2
 refine bodyPost_ret (results_cell_row rfl _ _ gb485 29 #[.string t486, .string t487, .int .i64 a0_2, .bool a0_3, .int .i64 a0_4, .int .i64 a0_5, .int .i64 a0_6, .int .i64 a0_7] (0, 0) _ rfl (by (with_reducible repeat (first | refine blk_drewN ?_ _ | refine blk_drew ?_ | refine blk_alloc ?_ _)); refine blk_put (cs := #[.string t486, .string t487, .int .i64 a0_2, .bool a0_3, .int .i64 a0_4, .int .i64 a0_5, .int .i64 a0_6, .int .i64 0]) ?_ 7 _ rfl; (with_reducible repeat (first | refine blk_drewN ?_ _ | refine blk_drew ?_ | refine blk_alloc ?_ _)); refine blk_put (cs := #[.string t486, .string t487, .int .i64 a0_2, .bool a0_3, .int .i64 a0_4, .int .i64 a0_5, .int .i64 0, .int .i64 0]) ?_ 6 _ rfl; (with_reducible repeat (first | refine blk_drewN ?_ _ | refine blk_drew ?_ | refine blk_alloc ?_ _)); refine blk_put (cs := #[.string t486, .string t487, .int .i64 a0_2, .bool a0_3, .int .i64 a0_4, .int .i64 0, .int .i64 0, .int .i64 0]) ?_ 5 _ rfl; (with_reducible repeat (first | refine blk_drewN ?_ _ | refine blk_drew ?_ | refine blk_alloc ?_ _)); refine blk_put (cs := #[.string t486, .string t487, .int .i64 a0_2, .bool a0_3, .int .i64 0, .int .i64 0, .int .i64 0, .int .i64 0]) ?_ 4 _ rfl; (with_reducible repeat (first | refine blk_drewN ?_ _ | refine blk_drew ?_ | refine blk_alloc ?_ _)); refine blk_put (cs := #[.string t486, .string t487, .int .i64 a0_2, .bool false, .int .i64 0, .int .i64 0, .int .i64 0, .int .i64 0]) ?_ 3 _ rfl; (with_reducible repeat (first | refine blk_drewN ?_ _ | refine blk_drew ?_ | refine blk_alloc ?_ _)); refine blk_put (cs := #[.string t486, .string t487, .int .i64 0, .bool false, .int .i64 0, .int .i64 0, .int .i64 0, .int .i64 0]) ?_ 2 _ rfl; (with_reducible repeat (first | refine blk_drewN ?_ _ | refine blk_drew ?_ | refine blk_alloc ?_ _)); refine blk_put (cs := #[.string t486, .string (⟨#[]⟩ : ByteArray), .int .i64 0, .bool false, .int .i64 0, .int .i64 0, .int .i64 0, .int .i64 0]) ?_ 1 _ rfl; (with_reducible repeat (first | refine blk_drewN ?_ _ | refine blk_drew ?_ | refine blk_alloc ?_ _)); exact blk_put (cs := #[.string (⟨#[]⟩ : ByteArray), .string (⟨#[]⟩ : ByteArray), .int .i64 0, .bool false, .int .i64 0, .int .i64 0, .int .i64 0, .int .i64 0]) bk 0 _ rfl) Tryz.underlying29 rfl (by kernel_rfl)) rfl ?_; exact ⟨ew, bwS⟩

end Go.Proofs.YtnnlhpmkfijppaaGreatDoor.Fn
namespace Go.Proofs.YtnnlhpmkfijppaaGreatDoor.Fn
open Go.RowKit Go.Proofs.YtnnlhpmkfijppaaGreatDoorW.PrintWords Go.Proofs.YtnnlhpmkfijppaaGreatDoorW.PrintLast Go.Proofs.YtnnlhpmkfijppaaGreatDoorW.PrintMore
attribute [local go_sem high] eqA29
set_option linter.unusedVariables false
set_option linter.unusedSimpArgs false
/-! Layer 33: RosterTells, walked by hand. -/
def bulletinlaw33_RosterTells.f (k : Nat) (a0_0 : ByteArray) (a0_1 : ByteArray) (a0_2 : Int) (a0_3 : Bool) (a0_4 : Int) (a0_5 : Int) (a0_6 : Int) (a0_7 : Int) (a1 a2 a3 : Int) (a4 : ByteArray) : Option Bool := if 10000000 ≤ k then some true else none
set_option maxHeartbeats 8000000 in
set_option maxRecDepth 100000 in
theorem bulletinlaw33_RosterTells.calls (k : Nat) (a : ByteArray) (b : ByteArray) (mode : Int) (off : Bool) (sc : Int) (dy : Int) (tk : Int) (sn : Int) (day most m : Int) (s : ByteArray) (r : Bool) (w : World) (hG : GlobT w) (h : bulletinlaw33_RosterTells.f k a b mode off sc dy tk sn day most m s = some r) :
  Calls Tryz.prog 4 #[.agg #[.string a, .string b, .int .i64 mode, .bool off, .int .i64 sc, .int .i64 dy, .int .i64 tk, .int .i64 sn], .int .i64 day, .int .i64 most, .int .i64 m, .string s] w fun e w' => e = .returned (.bool r) ∧ Below w.heap.size w w' := by
 unfold bulletinlaw33_RosterTells.f at h
 by_cases hk : 10000000 ≤ k
 case neg => rw [if_neg hk] at h; cases h
 rw [if_pos hk] at h
 obtain rfl := Option.some.inj h
 clear h
 have hu29 := Tryz.underlying29
 have hu25 := Tryz.underlying25
 have hu27 := Tryz.underlying27
 have hw := Aside0.mk (Pl.works33 k (by omega))
 have HG := Aside0.mk hG
 have HB := Aside0.mk (Below.refl w.heap.size w)
 clear hG
 by_cases e0 : a.size > 300
 ·have f0 : decide (300 < (a.size : Int)) = true := decide_eq_true (by omega)
  have h0 : (300 < (a.size : Int)) = True := eq_true (by omega)
  have g0 : decide (300 < a.size) = true := decide_eq_true (by omega)
  clear e0
  go_enter Tryz.func4, Tryz.ntmps4
  go_wp2_with (first | ((with_reducible refine gate_dst (N := 5) rfl ?_); refine box_event ?hg (N := 5) ?hd (cs := #[.string a, .string b, .int .i64 mode, .bool off, .int .i64 sc, .int .i64 dy, .int .i64 tk, .int .i64 sn]) (t := 25) ?hr ?_; (case hd => rfl); (case hg => rfl); (case hr => first | (go_simp; done) | (go_simp; rfl)); intro gq hg w8 hbox hb; have x1_ := Aside0.mk ((by rw [hg]; exact HB.out.size : w.heap.size ≤ gq)); have x0_ := Aside0.mk hbox; have n0_ := Aside0.mk (below_step HB.out hb); clear HB  hb; have HB := n0_; clear n0_ ; have GE_gq := x1_; have B_gq := x0_; clear x0_ x1_ hbox hg; have hcq_0 : w8.cell? ⟨gq, 0, none⟩ = some (.string a) := (blk_cell B_gq.out 0).trans rfl; have hcq_1 : w8.cell? ⟨gq, 1, none⟩ = some (.string b) := (blk_cell B_gq.out 1).trans rfl; have hcq_2 : w8.cell? ⟨gq, 2, none⟩ = some (.int .i64 mode) := (blk_cell B_gq.out 2).trans rfl; have hcq_3 : w8.cell? ⟨gq, 3, none⟩ = some (.bool off) := (blk_cell B_gq.out 3).trans rfl; have hcq_4 : w8.cell? ⟨gq, 4, none⟩ = some (.int .i64 sc) := (blk_cell B_gq.out 4).trans rfl; have hcq_5 : w8.cell? ⟨gq, 5, none⟩ = some (.int .i64 dy) := (blk_cell B_gq.out 5).trans rfl; have hcq_6 : w8.cell? ⟨gq, 6, none⟩ = some (.int .i64 tk) := (blk_cell B_gq.out 6).trans rfl; have hcq_7 : w8.cell? ⟨gq, 7, none⟩ = some (.int .i64 sn) := (blk_cell B_gq.out 7).trans rfl; have hfq_0 := blk_frozen B_gq.out 0; have hfq_1 := blk_frozen B_gq.out 1; have hfq_2 := blk_frozen B_gq.out 2; have hfq_3 := blk_frozen B_gq.out 3; have hfq_4 := blk_frozen B_gq.out 4; have hfq_5 := blk_frozen B_gq.out 5; have hfq_6 := blk_frozen B_gq.out 6; have hfq_7 := blk_frozen B_gq.out 7) | (go_at_call 5; (with_reducible refine (bulletinlaw33_works.calls k true _ (GlobT.below HG.out HB.out) hw.out).mono ?_); rintro e w9 ⟨rfl, hb⟩; have n0_ := Aside0.mk (below_step HB.out hb); have n1_ := Aside0.mk (blk_below B_gq.out hb); clear HB B_gq hb; have HB := n0_; have B_gq := n1_; clear n0_ n1_))
  go_ret
  exact ⟨rfl, HB.out⟩
 have f0 : decide (300 < (a.size : Int)) = false := decide_eq_false (by omega)
 have h0 : (300 < (a.size : Int)) = False := eq_false (by omega)
 have g0 : decide (300 < a.size) = false := decide_eq_false (by omega)
 by_cases e1 : b.size > 300
 ·have f1 : decide (300 < (b.size : Int)) = true := decide_eq_true (by omega)
  have h1 : (300 < (b.size : Int)) = True := eq_true (by omega)
  have g1 : decide (300 < b.size) = true := decide_eq_true (by omega)
  clear e1
  go_enter Tryz.func4, Tryz.ntmps4
  go_wp2_with (first | ((with_reducible refine gate_dst (N := 5) rfl ?_); refine box_event ?hg (N := 5) ?hd (cs := #[.string a, .string b, .int .i64 mode, .bool off, .int .i64 sc, .int .i64 dy, .int .i64 tk, .int .i64 sn]) (t := 25) ?hr ?_; (case hd => rfl); (case hg => rfl); (case hr => first | (go_simp; done) | (go_simp; rfl)); intro gq hg w8 hbox hb; have x1_ := Aside0.mk ((by rw [hg]; exact HB.out.size : w.heap.size ≤ gq)); have x0_ := Aside0.mk hbox; have n0_ := Aside0.mk (below_step HB.out hb); clear HB  hb; have HB := n0_; clear n0_ ; have GE_gq := x1_; have B_gq := x0_; clear x0_ x1_ hbox hg; have hcq_0 : w8.cell? ⟨gq, 0, none⟩ = some (.string a) := (blk_cell B_gq.out 0).trans rfl; have hcq_1 : w8.cell? ⟨gq, 1, none⟩ = some (.string b) := (blk_cell B_gq.out 1).trans rfl; have hcq_2 : w8.cell? ⟨gq, 2, none⟩ = some (.int .i64 mode) := (blk_cell B_gq.out 2).trans rfl; have hcq_3 : w8.cell? ⟨gq, 3, none⟩ = some (.bool off) := (blk_cell B_gq.out 3).trans rfl; have hcq_4 : w8.cell? ⟨gq, 4, none⟩ = some (.int .i64 sc) := (blk_cell B_gq.out 4).trans rfl; have hcq_5 : w8.cell? ⟨gq, 5, none⟩ = some (.int .i64 dy) := (blk_cell B_gq.out 5).trans rfl; have hcq_6 : w8.cell? ⟨gq, 6, none⟩ = some (.int .i64 tk) := (blk_cell B_gq.out 6).trans rfl; have hcq_7 : w8.cell? ⟨gq, 7, none⟩ = some (.int .i64 sn) := (blk_cell B_gq.out 7).trans rfl; have hfq_0 := blk_frozen B_gq.out 0; have hfq_1 := blk_frozen B_gq.out 1; have hfq_2 := blk_frozen B_gq.out 2; have hfq_3 := blk_frozen B_gq.out 3; have hfq_4 := blk_frozen B_gq.out 4; have hfq_5 := blk_frozen B_gq.out 5; have hfq_6 := blk_frozen B_gq.out 6; have hfq_7 := blk_frozen B_gq.out 7) | (go_at_call 5; (with_reducible refine (bulletinlaw33_works.calls k true _ (GlobT.below HG.out HB.out) hw.out).mono ?_); rintro e w9 ⟨rfl, hb⟩; have n0_ := Aside0.mk (below_step HB.out hb); have n1_ := Aside0.mk (blk_below B_gq.out hb); clear HB B_gq hb; have HB := n0_; have B_gq := n1_; clear n0_ n1_))
  go_ret
  exact ⟨rfl, HB.out⟩
 have f1 : decide (300 < (b.size : Int)) = false := decide_eq_false (by omega)
 have h1 : (300 < (b.size : Int)) = False := eq_false (by omega)
 have g1 : decide (300 < b.size) = false := decide_eq_false (by omega)
 have ht : Aside0 (bulletinlaw33_To.f a b mode off sc dy tk sn = some (a, b, mode, off, sc, dy, tk, sn)) := ⟨rfl⟩
 have hs := Aside0.mk (Pl.sound_is a b mode off sc dy tk sn (by omega) (by omega) k (by omega))
 have hs2 := Aside0.mk (Pl.refsound_is a b mode off sc dy tk sn (by omega) (by omega) k hk)
 clear e0 e1
 generalize Pl.sound a b mode sc dy tk sn = S at hs hs2
 have hg := Aside0.mk (Pl.gets_is a b mode off sc dy tk sn m)
 have hg2 := Aside0.mk (Pl.refgets_is a b mode off sc dy tk sn m)
 generalize Pl.gets mode off m = G at hg hg2
 obtain ⟨o2, s2, d2, hb1, hb2⟩ := Pl.bounced_same (k - 1) a b mode off sc dy tk sn day most
 rw [show k - 1 + 1 = k by omega] at hb1 hb2
 replace hb1 := Aside0.mk hb1
 replace hb2 := Aside0.mk hb2
 have hl1 : Aside0 (roster_Member_Well.f a b mode off sc dy tk sn = some (a, b, mode, false, 0, -1, tk, sn)) := ⟨rfl⟩
 have hl2 : Aside0 (bulletinref33_Well.f a b mode off sc dy tk sn = some (a, b, mode, false, 0, -1, tk, sn)) := ⟨rfl⟩
 have hn1 : Aside0 (roster_New.f a b m day most = some (a, b, m, false, 0, -1, day, most)) := ⟨rfl⟩
 have hn2 : Aside0 (bulletinref33_New.f a b m day most = some (a, b, m, false, 0, -1, day, most)) := ⟨rfl⟩
 have hw1 := Aside0.mk (Pl.word_is m)
 have hw2 := Aside0.mk (Pl.refword_is m)
 generalize Pl.str (Pl.wordM m) = wd at hw1 hw2
 obtain ⟨mo, hm1, hm2⟩ := Pl.mode_some s k (by omega)
 replace hm1 := Aside0.mk hm1
 replace hm2 := Aside0.mk hm2
 have ht2 : Aside0 (bulletinlaw33_To.f a b mode o2 s2 d2 tk sn = some (a, b, mode, o2, s2, d2, tk, sn)) := ⟨rfl⟩
 have ht3 : Aside0 (bulletinlaw33_To.f a b mode false 0 (-1) tk sn = some (a, b, mode, false, 0, -1, tk, sn)) := ⟨rfl⟩
 have ht4 : Aside0 (bulletinlaw33_To.f a b m false 0 (-1) day most = some (a, b, m, false, 0, -1, day, most)) := ⟨rfl⟩
 clear hk
 go_enter Tryz.func4, Tryz.ntmps4
 go_upto_region 4 with (first | ((with_reducible refine gate_dst (N := 5) rfl ?_); refine box_event ?hg (N := 5) ?hd (cs := #[.string a, .string b, .int .i64 mode, .bool off, .int .i64 sc, .int .i64 dy, .int .i64 tk, .int .i64 sn]) (t := 25) ?hr ?_; (case hd => rfl); (case hg => rfl); (case hr => first | (go_simp; done) | (go_simp; rfl)); intro gq hg w8 hbox hb; have x1_ := Aside0.mk ((by rw [hg]; exact HB.out.size : w.heap.size ≤ gq)); have x0_ := Aside0.mk hbox; have n0_ := Aside0.mk (below_step HB.out hb); clear HB  hb; have HB := n0_; clear n0_ ; have GE_gq := x1_; have B_gq := x0_; clear x0_ x1_ hbox hg; have hcq_0 : w8.cell? ⟨gq, 0, none⟩ = some (.string a) := (blk_cell B_gq.out 0).trans rfl; have hcq_1 : w8.cell? ⟨gq, 1, none⟩ = some (.string b) := (blk_cell B_gq.out 1).trans rfl; have hcq_2 : w8.cell? ⟨gq, 2, none⟩ = some (.int .i64 mode) := (blk_cell B_gq.out 2).trans rfl; have hcq_3 : w8.cell? ⟨gq, 3, none⟩ = some (.bool off) := (blk_cell B_gq.out 3).trans rfl; have hcq_4 : w8.cell? ⟨gq, 4, none⟩ = some (.int .i64 sc) := (blk_cell B_gq.out 4).trans rfl; have hcq_5 : w8.cell? ⟨gq, 5, none⟩ = some (.int .i64 dy) := (blk_cell B_gq.out 5).trans rfl; have hcq_6 : w8.cell? ⟨gq, 6, none⟩ = some (.int .i64 tk) := (blk_cell B_gq.out 6).trans rfl; have hcq_7 : w8.cell? ⟨gq, 7, none⟩ = some (.int .i64 sn) := (blk_cell B_gq.out 7).trans rfl; have hfq_0 := blk_frozen B_gq.out 0; have hfq_1 := blk_frozen B_gq.out 1; have hfq_2 := blk_frozen B_gq.out 2; have hfq_3 := blk_frozen B_gq.out 3; have hfq_4 := blk_frozen B_gq.out 4; have hfq_5 := blk_frozen B_gq.out 5; have hfq_6 := blk_frozen B_gq.out 6; have hfq_7 := blk_frozen B_gq.out 7) | (go_at_call 8; (with_reducible refine (bulletinlaw33_To.calls a b mode off sc dy tk sn a b mode off sc dy tk sn _ ht.out).mono ?_); rintro e w11 ⟨rfl, hb⟩; have n0_ := Aside0.mk (below_step HB.out hb); have n1_ := Aside0.mk (blk_below B_gq.out hb); clear HB B_gq hb; have HB := n0_; have B_gq := n1_; clear n0_ n1_; (try clear hcq_0 hfq_0 hcq_1 hfq_1 hcq_2 hfq_2 hcq_3 hfq_3 hcq_4 hfq_4 hcq_5 hfq_5 hcq_6 hfq_6 hcq_7 hfq_7)) | ((with_reducible refine gate_dst (N := 11) rfl ?_); refine box_event ?hg (N := 11) ?hd (cs := #[.string (⟨#[]⟩ : ByteArray), .string (⟨#[]⟩ : ByteArray), .int .i64 0, .bool false, .int .i64 0, .int .i64 0, .int .i64 0, .int .i64 0]) (t := 29) ?hr ?_; (case hd => rfl); (case hg => rfl); (case hr => first | (go_simp; done) | (go_simp; rfl)); intro gm hg w12 hbox hb; have x1_ := Aside0.mk ((by rw [hg]; exact HB.out.size : w.heap.size ≤ gm)); have y0_ := Aside0.mk ((by rw [hg]; exact Nat.ne_of_lt (blk_lt B_gq.out) : gq ≠ gm)); have x0_ := Aside0.mk hbox; have n0_ := Aside0.mk (below_step HB.out hb); have n1_ := Aside0.mk (blk_below B_gq.out hb); clear HB B_gq hb; have HB := n0_; have B_gq := n1_; clear n0_ n1_; have GE_gm := x1_; have B_gm := x0_; clear x0_ x1_ hbox hg; have NE := y0_; clear y0_; have hcm_0 : w12.cell? ⟨gm, 0, none⟩ = some (.string (⟨#[]⟩ : ByteArray)) := (blk_cell B_gm.out 0).trans rfl; have hcm_1 : w12.cell? ⟨gm, 1, none⟩ = some (.string (⟨#[]⟩ : ByteArray)) := (blk_cell B_gm.out 1).trans rfl; have hcm_2 : w12.cell? ⟨gm, 2, none⟩ = some (.int .i64 0) := (blk_cell B_gm.out 2).trans rfl; have hcm_3 : w12.cell? ⟨gm, 3, none⟩ = some (.bool false) := (blk_cell B_gm.out 3).trans rfl; have hcm_4 : w12.cell? ⟨gm, 4, none⟩ = some (.int .i64 0) := (blk_cell B_gm.out 4).trans rfl; have hcm_5 : w12.cell? ⟨gm, 5, none⟩ = some (.int .i64 0) := (blk_cell B_gm.out 5).trans rfl; have hcm_6 : w12.cell? ⟨gm, 6, none⟩ = some (.int .i64 0) := (blk_cell B_gm.out 6).trans rfl; have hcm_7 : w12.cell? ⟨gm, 7, none⟩ = some (.int .i64 0) := (blk_cell B_gm.out 7).trans rfl; have hfm_0 := blk_frozen B_gm.out 0; have hfm_1 := blk_frozen B_gm.out 1; have hfm_2 := blk_frozen B_gm.out 2; have hfm_3 := blk_frozen B_gm.out 3; have hfm_4 := blk_frozen B_gm.out 4; have hfm_5 := blk_frozen B_gm.out 5; have hfm_6 := blk_frozen B_gm.out 6; have hfm_7 := blk_frozen B_gm.out 7))
 (try clear hcm_0 hfm_0 hcm_1 hfm_1 hcm_2 hfm_2 hcm_3 hfm_3 hcm_4 hfm_4 hcm_5 hfm_5 hcm_6 hfm_6 hcm_7 hfm_7)
 have n0_ : Aside0 (Below w.heap.size w ((((((((w12.setCell ⟨gm, 0, none⟩ (.string a)).setCell ⟨gm, 1, none⟩ (.string b)).setCell ⟨gm, 2, none⟩ (.int .i64 mode)).setCell ⟨gm, 3, none⟩ (.bool off)).setCell ⟨gm, 4, none⟩ (.int .i64 sc)).setCell ⟨gm, 5, none⟩ (.int .i64 dy)).setCell ⟨gm, 6, none⟩ (.int .i64 tk)).setCell ⟨gm, 7, none⟩ (.int .i64 sn))) := ⟨member_below HB.out GE_gm.out⟩
 have n1_ : Aside0 (((((((((w12.setCell ⟨gm, 0, none⟩ (.string a)).setCell ⟨gm, 1, none⟩ (.string b)).setCell ⟨gm, 2, none⟩ (.int .i64 mode)).setCell ⟨gm, 3, none⟩ (.bool off)).setCell ⟨gm, 4, none⟩ (.int .i64 sc)).setCell ⟨gm, 5, none⟩ (.int .i64 dy)).setCell ⟨gm, 6, none⟩ (.int .i64 tk)).setCell ⟨gm, 7, none⟩ (.int .i64 sn)).heap[gm]? = some (.cells #[.string a, .string b, .int .i64 mode, .bool off, .int .i64 sc, .int .i64 dy, .int .i64 tk, .int .i64 sn] 29 (0, 0))) := ⟨member_blk (.string a) (.string b) (.int .i64 mode) (.bool off) (.int .i64 sc) (.int .i64 dy) (.int .i64 tk) (.int .i64 sn) B_gm.out⟩
 have n2_ : Aside0 (((((((((w12.setCell ⟨gm, 0, none⟩ (.string a)).setCell ⟨gm, 1, none⟩ (.string b)).setCell ⟨gm, 2, none⟩ (.int .i64 mode)).setCell ⟨gm, 3, none⟩ (.bool off)).setCell ⟨gm, 4, none⟩ (.int .i64 sc)).setCell ⟨gm, 5, none⟩ (.int .i64 dy)).setCell ⟨gm, 6, none⟩ (.int .i64 tk)).setCell ⟨gm, 7, none⟩ (.int .i64 sn)).heap[gq]? = some (.cells #[.string a, .string b, .int .i64 mode, .bool off, .int .i64 sc, .int .i64 dy, .int .i64 tk, .int .i64 sn] 25 (0, 0))) := ⟨member_other B_gq.out NE.out⟩
 clear HB B_gm B_gq
 generalize ((((((((w12.setCell ⟨gm, 0, none⟩ (.string a)).setCell ⟨gm, 1, none⟩ (.string b)).setCell ⟨gm, 2, none⟩ (.int .i64 mode)).setCell ⟨gm, 3, none⟩ (.bool off)).setCell ⟨gm, 4, none⟩ (.int .i64 sc)).setCell ⟨gm, 5, none⟩ (.int .i64 dy)).setCell ⟨gm, 6, none⟩ (.int .i64 tk)).setCell ⟨gm, 7, none⟩ (.int .i64 sn)) = w13 at n0_ n1_ n2_ ⊢
 have HB := n0_
 have B_gm := n1_
 have B_gq := n2_
 clear n0_ n1_ n2_
 refine wp_quiet_below (by kernel_rfl) (by kernel_rfl) ?_
 repeat (refine wpQuiet_step (fun K hK => ?_); go_simp; first | (refine hK _ ?_; clear hK K) | (apply Exists.intro; refine ⟨fun w_ hw_ => ?_, hK _ ?_⟩; (first | (go_at_call 11; (with_reducible refine (roster_Member_Sound.calls k a b mode off sc dy tk sn S _ hs.out).mono ?_); rintro e w'_ ⟨rfl, hb⟩; exact ⟨rfl, grown_step hw_ hb⟩) | (go_at_call 12; (with_reducible refine (bulletinref33_Sound.calls k a b mode off sc dy tk sn S _ hs2.out).mono ?_); rintro e w'_ ⟨rfl, hb⟩; exact ⟨rfl, grown_step hw_ hb⟩) | (go_at_call 13; (with_reducible refine (roster_Member_Gets.calls a b mode off sc dy tk sn m G _ hg.out).mono ?_); rintro e w'_ ⟨rfl, hb⟩; exact ⟨rfl, grown_step hw_ hb⟩) | (go_at_call 14; (with_reducible refine (bulletinref33_Gets.calls a b mode off sc dy tk sn m G _ hg2.out).mono ?_); rintro e w'_ ⟨rfl, hb⟩; exact ⟨rfl, grown_step hw_ hb⟩) | (go_at_call 15; (with_reducible refine (roster_Member_Bounced.calls k a b mode off sc dy tk sn day most a b mode o2 s2 d2 tk sn _ hb1.out).mono ?_); rintro e w'_ ⟨rfl, hb⟩; exact ⟨rfl, grown_step hw_ hb⟩) | (go_at_call 16; (with_reducible refine (bulletinref33_Bounced.calls k a b mode off sc dy tk sn day most a b mode o2 s2 d2 tk sn _ hb2.out).mono ?_); rintro e w'_ ⟨rfl, hb⟩; exact ⟨rfl, grown_step hw_ hb⟩) | (go_at_call 17; (with_reducible refine (roster_Member_Well.calls a b mode off sc dy tk sn a b mode false 0 (-1) tk sn _ hl1.out).mono ?_); rintro e w'_ ⟨rfl, hb⟩; exact ⟨rfl, grown_step hw_ hb⟩) | (go_at_call 18; (with_reducible refine (bulletinref33_Well.calls a b mode off sc dy tk sn a b mode false 0 (-1) tk sn _ hl2.out).mono ?_); rintro e w'_ ⟨rfl, hb⟩; exact ⟨rfl, grown_step hw_ hb⟩) | (go_at_call 8; (with_reducible refine (bulletinlaw33_To.calls a b mode o2 s2 d2 tk sn a b mode o2 s2 d2 tk sn _ ht2.out).mono ?_); rintro e w'_ ⟨rfl, hb⟩; exact ⟨rfl, grown_step hw_ hb⟩) | (go_at_call 8; (with_reducible refine (bulletinlaw33_To.calls a b mode false 0 (-1) tk sn a b mode false 0 (-1) tk sn _ ht3.out).mono ?_); rintro e w'_ ⟨rfl, hb⟩; exact ⟨rfl, grown_step hw_ hb⟩) | rfl | (have f1_ := Aside0.mk (grown_blk hw_ B_gq.out); have f2_ := Aside0.mk (grown_blk hw_ B_gm.out); have hcq_0 : w_.cell? ⟨gq, 0, none⟩ = some (.string a) := (blk_cell f1_.out 0).trans rfl; have hcq_1 : w_.cell? ⟨gq, 1, none⟩ = some (.string b) := (blk_cell f1_.out 1).trans rfl; have hcq_2 : w_.cell? ⟨gq, 2, none⟩ = some (.int .i64 mode) := (blk_cell f1_.out 2).trans rfl; have hcq_3 : w_.cell? ⟨gq, 3, none⟩ = some (.bool off) := (blk_cell f1_.out 3).trans rfl; have hcq_4 : w_.cell? ⟨gq, 4, none⟩ = some (.int .i64 sc) := (blk_cell f1_.out 4).trans rfl; have hcq_5 : w_.cell? ⟨gq, 5, none⟩ = some (.int .i64 dy) := (blk_cell f1_.out 5).trans rfl; have hcq_6 : w_.cell? ⟨gq, 6, none⟩ = some (.int .i64 tk) := (blk_cell f1_.out 6).trans rfl; have hcq_7 : w_.cell? ⟨gq, 7, none⟩ = some (.int .i64 sn) := (blk_cell f1_.out 7).trans rfl; have hcm_0 : w_.cell? ⟨gm, 0, none⟩ = some (.string a) := (blk_cell f2_.out 0).trans rfl; have hcm_1 : w_.cell? ⟨gm, 1, none⟩ = some (.string b) := (blk_cell f2_.out 1).trans rfl; have hcm_2 : w_.cell? ⟨gm, 2, none⟩ = some (.int .i64 mode) := (blk_cell f2_.out 2).trans rfl; have hcm_3 : w_.cell? ⟨gm, 3, none⟩ = some (.bool off) := (blk_cell f2_.out 3).trans rfl; have hcm_4 : w_.cell? ⟨gm, 4, none⟩ = some (.int .i64 sc) := (blk_cell f2_.out 4).trans rfl; have hcm_5 : w_.cell? ⟨gm, 5, none⟩ = some (.int .i64 dy) := (blk_cell f2_.out 5).trans rfl; have hcm_6 : w_.cell? ⟨gm, 6, none⟩ = some (.int .i64 tk) := (blk_cell f2_.out 6).trans rfl; have hcm_7 : w_.cell? ⟨gm, 7, none⟩ = some (.int .i64 sn) := (blk_cell f2_.out 7).trans rfl; go_simp; first | done | rfl)); clear hK K))
 refine wpQuiet_nil ?_
 intro w14 hw'
 have n0_ := Aside0.mk (grown_below hw' HB.out (HB.out.size))
 have n1_ := Aside0.mk (grown_blk hw' B_gq.out)
 have n2_ := Aside0.mk (grown_blk hw' B_gm.out)
 clear HB B_gq B_gm hw'
 have HB := n0_
 have B_gq := n1_
 have B_gm := n2_
 clear n0_ n1_ n2_ hs hs2 hg hg2 hb1 hb2 hl1 hl2 ht2 ht3
 have hcq_0 : w14.cell? ⟨gq, 0, none⟩ = some (.string a) := (blk_cell B_gq.out 0).trans rfl
 have hcq_1 : w14.cell? ⟨gq, 1, none⟩ = some (.string b) := (blk_cell B_gq.out 1).trans rfl
 have hcq_2 : w14.cell? ⟨gq, 2, none⟩ = some (.int .i64 mode) := (blk_cell B_gq.out 2).trans rfl
 have hcq_3 : w14.cell? ⟨gq, 3, none⟩ = some (.bool off) := (blk_cell B_gq.out 3).trans rfl
 have hcq_4 : w14.cell? ⟨gq, 4, none⟩ = some (.int .i64 sc) := (blk_cell B_gq.out 4).trans rfl
 have hcq_5 : w14.cell? ⟨gq, 5, none⟩ = some (.int .i64 dy) := (blk_cell B_gq.out 5).trans rfl
 have hcq_6 : w14.cell? ⟨gq, 6, none⟩ = some (.int .i64 tk) := (blk_cell B_gq.out 6).trans rfl
 have hcq_7 : w14.cell? ⟨gq, 7, none⟩ = some (.int .i64 sn) := (blk_cell B_gq.out 7).trans rfl
 have hfq_0 := blk_frozen B_gq.out 0
 have hfq_1 := blk_frozen B_gq.out 1
 have hfq_2 := blk_frozen B_gq.out 2
 have hfq_3 := blk_frozen B_gq.out 3
 have hfq_4 := blk_frozen B_gq.out 4
 have hfq_5 := blk_frozen B_gq.out 5
 have hfq_6 := blk_frozen B_gq.out 6
 have hfq_7 := blk_frozen B_gq.out 7
 have hcm_0 : w14.cell? ⟨gm, 0, none⟩ = some (.string a) := (blk_cell B_gm.out 0).trans rfl
 have hcm_1 : w14.cell? ⟨gm, 1, none⟩ = some (.string b) := (blk_cell B_gm.out 1).trans rfl
 have hcm_2 : w14.cell? ⟨gm, 2, none⟩ = some (.int .i64 mode) := (blk_cell B_gm.out 2).trans rfl
 have hcm_3 : w14.cell? ⟨gm, 3, none⟩ = some (.bool off) := (blk_cell B_gm.out 3).trans rfl
 have hcm_4 : w14.cell? ⟨gm, 4, none⟩ = some (.int .i64 sc) := (blk_cell B_gm.out 4).trans rfl
 have hcm_5 : w14.cell? ⟨gm, 5, none⟩ = some (.int .i64 dy) := (blk_cell B_gm.out 5).trans rfl
 have hcm_6 : w14.cell? ⟨gm, 6, none⟩ = some (.int .i64 tk) := (blk_cell B_gm.out 6).trans rfl
 have hcm_7 : w14.cell? ⟨gm, 7, none⟩ = some (.int .i64 sn) := (blk_cell B_gm.out 7).trans rfl
 have hfm_0 := blk_frozen B_gm.out 0
 have hfm_1 := blk_frozen B_gm.out 1
 have hfm_2 := blk_frozen B_gm.out 2
 have hfm_3 := blk_frozen B_gm.out 3
 have hfm_4 := blk_frozen B_gm.out 4
 have hfm_5 := blk_frozen B_gm.out 5
 have hfm_6 := blk_frozen B_gm.out 6
 have hfm_7 := blk_frozen B_gm.out 7
 go_wp2
 (try clear hcq_0 hfq_0 hcq_1 hfq_1 hcq_2 hfq_2 hcq_3 hfq_3 hcq_4 hfq_4 hcq_5 hfq_5 hcq_6 hfq_6 hcq_7 hfq_7)
 (try clear hcm_0 hfm_0 hcm_1 hfm_1 hcm_2 hfm_2 hcm_3 hfm_3 hcm_4 hfm_4 hcm_5 hfm_5 hcm_6 hfm_6 hcm_7 hfm_7)
 refine wp_quiet_below (by kernel_rfl) (by kernel_rfl) ?_
 repeat (refine wpQuiet_step (fun K hK => ?_); go_simp; first | (refine hK _ ?_; clear hK K) | (apply Exists.intro; refine ⟨fun w_ hw_ => ?_, hK _ ?_⟩; (first | (go_at_call 19; (with_reducible refine (roster_New.calls a b m day most a b m false 0 (-1) day most _ hn1.out).mono ?_); rintro e w'_ ⟨rfl, hb⟩; exact ⟨rfl, grown_step hw_ hb⟩) | (go_at_call 20; (with_reducible refine (bulletinref33_New.calls a b m day most a b m false 0 (-1) day most _ hn2.out).mono ?_); rintro e w'_ ⟨rfl, hb⟩; exact ⟨rfl, grown_step hw_ hb⟩) | (go_at_call 8; (with_reducible refine (bulletinlaw33_To.calls a b m false 0 (-1) day most a b m false 0 (-1) day most _ ht4.out).mono ?_); rintro e w'_ ⟨rfl, hb⟩; exact ⟨rfl, grown_step hw_ hb⟩) | (go_at_call 21; (with_reducible refine (roster_Word.calls m wd _ hw1.out).mono ?_); rintro e w'_ ⟨rfl, hb⟩; exact ⟨rfl, grown_step hw_ hb.below⟩) | (go_at_call 22; (with_reducible refine (bulletinref33_Word.calls m wd _ hw2.out).mono ?_); rintro e w'_ ⟨rfl, hb⟩; exact ⟨rfl, grown_step hw_ hb⟩) | (go_at_call 23; (with_reducible refine (roster_Mode.calls k s mo _ hm1.out).mono ?_); rintro e w'_ ⟨rfl, hb⟩; exact ⟨rfl, grown_step hw_ (by first | exact hb | exact hb.below)⟩) | (go_at_call 24; (with_reducible refine (bulletinref33_Mode.calls k s mo _ hm2.out).mono ?_); rintro e w'_ ⟨rfl, hb⟩; exact ⟨rfl, grown_step hw_ hb⟩) | (go_at_call 5; (with_reducible refine (bulletinlaw33_works.calls k true _ (GlobT.below HG.out (grown_below hw_ HB.out HB.out.size)) hw.out).mono ?_); rintro e w'_ ⟨rfl, hb⟩; exact ⟨rfl, grown_step hw_ hb⟩) | rfl | (have f1_ := Aside0.mk (grown_blk hw_ B_gq.out); have f2_ := Aside0.mk (grown_blk hw_ B_gm.out); have hcq_0 : w_.cell? ⟨gq, 0, none⟩ = some (.string a) := (blk_cell f1_.out 0).trans rfl; have hcq_1 : w_.cell? ⟨gq, 1, none⟩ = some (.string b) := (blk_cell f1_.out 1).trans rfl; have hcq_2 : w_.cell? ⟨gq, 2, none⟩ = some (.int .i64 mode) := (blk_cell f1_.out 2).trans rfl; have hcq_3 : w_.cell? ⟨gq, 3, none⟩ = some (.bool off) := (blk_cell f1_.out 3).trans rfl; have hcq_4 : w_.cell? ⟨gq, 4, none⟩ = some (.int .i64 sc) := (blk_cell f1_.out 4).trans rfl; have hcq_5 : w_.cell? ⟨gq, 5, none⟩ = some (.int .i64 dy) := (blk_cell f1_.out 5).trans rfl; have hcq_6 : w_.cell? ⟨gq, 6, none⟩ = some (.int .i64 tk) := (blk_cell f1_.out 6).trans rfl; have hcq_7 : w_.cell? ⟨gq, 7, none⟩ = some (.int .i64 sn) := (blk_cell f1_.out 7).trans rfl; have hcm_0 : w_.cell? ⟨gm, 0, none⟩ = some (.string a) := (blk_cell f2_.out 0).trans rfl; have hcm_1 : w_.cell? ⟨gm, 1, none⟩ = some (.string b) := (blk_cell f2_.out 1).trans rfl; have hcm_2 : w_.cell? ⟨gm, 2, none⟩ = some (.int .i64 mode) := (blk_cell f2_.out 2).trans rfl; have hcm_3 : w_.cell? ⟨gm, 3, none⟩ = some (.bool off) := (blk_cell f2_.out 3).trans rfl; have hcm_4 : w_.cell? ⟨gm, 4, none⟩ = some (.int .i64 sc) := (blk_cell f2_.out 4).trans rfl; have hcm_5 : w_.cell? ⟨gm, 5, none⟩ = some (.int .i64 dy) := (blk_cell f2_.out 5).trans rfl; have hcm_6 : w_.cell? ⟨gm, 6, none⟩ = some (.int .i64 tk) := (blk_cell f2_.out 6).trans rfl; have hcm_7 : w_.cell? ⟨gm, 7, none⟩ = some (.int .i64 sn) := (blk_cell f2_.out 7).trans rfl; go_simp; first | done | rfl)); clear hK K))
 refine wpQuiet_nil ?_
 intro w15 hw'
 have n0_ := Aside0.mk (grown_below hw' HB.out (HB.out.size))
 go_wp2
 go_ret
 exact ⟨by first | rfl | simp, n0_.out⟩
end Go.Proofs.YtnnlhpmkfijppaaGreatDoor.Fn
set_option linter.unusedVariables false
namespace Go.Proofs.YtnnlhpmkfijppaaGreatDoor.Pl
open Go.RowKit Go.Proofs.YtnnlhpmkfijppaaGreatDoor.Fn

theorem RosterTells (a b : ByteArray) (mode : Int) (off : Bool) (sc dy tk sn day most m : Int) (s : ByteArray) : ∃ k, bulletinlaw33_RosterTells.f k a b mode off sc dy tk sn day most m s = some true := by
 refine ⟨10000000, ?_⟩
 unfold bulletinlaw33_RosterTells.f
 rw [if_pos (Nat.le_refl _)]
end Go.Proofs.YtnnlhpmkfijppaaGreatDoor.Pl
set_option linter.unusedVariables false
namespace Go.Proofs.YtnnlhpmkfijppaaGreatDoor.Fn
open Go.RowKit Go.ChangeShapes Go.WideShapes Go.Proofs.YtnnlhpmkfijppaaGreatDoorW.PrintWords

/-! A member (an address and six cells) that came in. -/
theorem array8 {α : Type} {cs : Array α} (h : cs.size = 8) : ∃ c0 c1 c2 c3 c4 c5 c6 c7, cs = #[c0, c1, c2, c3, c4, c5, c6, c7] := by
 obtain ⟨l⟩ := cs
 match l, h with
 | [c0, c1, c2, c3, c4, c5, c6, c7], _ => exact ⟨c0, c1, c2, c3, c4, c5, c6, c7, rfl⟩
theorem list7 {α : Type} {cs : List α} (h : cs.length = 7) : ∃ c0 c1 c2 c3 c4 c5 c6, cs = [c0, c1, c2, c3, c4, c5, c6] := by
 match cs, h with
 | [c0, c1, c2, c3, c4, c5, c6], _ => exact ⟨c0, c1, c2, c3, c4, c5, c6, rfl⟩
theorem list2 {α : Type} {cs : List α} (h : cs.length = 2) : ∃ c0 c1, cs = [c0, c1] := by
 match cs, h with
 | [c0, c1], _ => exact ⟨c0, c1, rfl⟩
theorem cells_str : Tryz.prog.cellsOf 9 = 1 := by kernel_rfl
theorem cells_int : Tryz.prog.cellsOf 3 = 1 := by kernel_rfl
theorem cells_bool : Tryz.prog.cellsOf 4 = 1 := by kernel_rfl
set_option maxRecDepth 100000 in
theorem open_addr {H : Type} {enc : TypeId × Value → H} {w : World} {base : Nat} {spare : Nat → Bool} {held : Bool} {fuel : Nat} {c0 c1 : Value} {y : DataW H × List MemPlace}
  (h : DataW.trod enc Tryz.prog w base spare held fuel 23 [c0, c1] = some y) :
  ∃ (a0 a1 : ByteArray), c0 = .string a0 ∧ c1 = .string a1 ∧ y.1 = .agg [.lit (.string a0.data.toList), .lit (.string a1.data.toList)] := by
 obtain ⟨xs, n, _, rfl, hl, hlen, hall⟩ := DataW.trod_struct Tryz.underlying23 h
 obtain ⟨y0, y1, rfl⟩ := list2 hlen
 have f0 := hall 0 _ rfl
 have f1 := hall 1 _ rfl
 obtain ⟨a0, e0, x0, _⟩ := DataW.trod_string Tryz.underlying9 f0
 obtain ⟨a1, e1, x1, _⟩ := DataW.trod_string Tryz.underlying9 f1
 have k0 : c0 = .string a0 := by have := congrArg (·[0]?) e0; simpa [cells_str] using this
 have k1 : c1 = .string a1 := by have := congrArg (·[0]?) e1; simpa [cells_str] using this
 exact ⟨a0, a1, k0, k1, by subst x0; subst x1; rfl⟩
set_option maxRecDepth 100000 in
theorem open_member {H : Type} {enc : TypeId × Value → H} {w W : World} {base base' : Nat} {spare : Nat → Bool} {held : Bool} {re : Reach} {v : Value} {d : DataW H} {ps : List MemPlace}
  (hv : Value.okWide Tryz.prog W re base' 25 v) (h : DataW.Trod enc Tryz.prog w base spare held 25 v d ps) :
  ∃ (a0 a1 : ByteArray) (a2 : Int) (a3 : Bool) (a4 a5 a6 a7 : Int), v = .agg #[.string a0, .string a1, .int .i64 a2, .bool a3, .int .i64 a4, .int .i64 a5, .int .i64 a6, .int .i64 a7] ∧
   a0.size ∈ d.weights Tryz.prog 25 ∧ a1.size ∈ d.weights Tryz.prog 25 ∧ (-9223372036854775808 ≤ a4 ∧ a4 ≤ 9223372036854775807) ∧ (-9223372036854775808 ≤ a5 ∧ a5 ≤ 9223372036854775807) ∧ (-9223372036854775808 ≤ a6 ∧ a6 ≤ 9223372036854775807) ∧ (-9223372036854775808 ≤ a7 ∧ a7 ≤ 9223372036854775807) := by
 obtain ⟨cs, rfl, hsz⟩ := okWide_struct Tryz.underlying25 hv
 obtain ⟨c0, c1, c2, c3, c4, c5, c6, c7, rfl⟩ := array8 (hsz.trans (by kernel_rfl))
 obtain ⟨fuel, hf⟩ := h
 obtain ⟨xs, n, _, hx, hl, hlen, hall⟩ := DataW.trod_struct Tryz.underlying25 hf
 obtain ⟨y0, y1, y2, y3, y4, y5, y6, rfl⟩ := list7 hlen
 have f0 := hall 0 _ rfl
 have f1 := hall 1 _ rfl
 have f2 := hall 2 _ rfl
 have f3 := hall 3 _ rfl
 have f4 := hall 4 _ rfl
 have f5 := hall 5 _ rfl
 have f6 := hall 6 _ rfl
 obtain ⟨a0, a1, e0, e1, x0⟩ := open_addr (c0 := c0) (c1 := c1) f0
 obtain ⟨a2, e2, x2, _⟩ := DataW.trod_int Tryz.underlying3 f1
 obtain ⟨a3, e3, x3⟩ := DataW.trod_bool Tryz.underlying4 f2
 obtain ⟨a4, e4, x4, w4⟩ := DataW.trod_int Tryz.underlying3 f3
 obtain ⟨a5, e5, x5, w5⟩ := DataW.trod_int Tryz.underlying3 f4
 obtain ⟨a6, e6, x6, w6⟩ := DataW.trod_int Tryz.underlying3 f5
 obtain ⟨a7, e7, x7, w7⟩ := DataW.trod_int Tryz.underlying3 f6
 have k2 : c2 = .int .i64 a2 := by have := congrArg (·[0]?) e2; simpa [cells_int, Value.cells] using this
 have k3 : c3 = .bool a3 := by have := congrArg (·[0]?) e3; simpa [cells_bool, Value.cells] using this
 have k4 : c4 = .int .i64 a4 := by have := congrArg (·[0]?) e4; simpa [cells_int, Value.cells] using this
 have k5 : c5 = .int .i64 a5 := by have := congrArg (·[0]?) e5; simpa [cells_int, Value.cells] using this
 have k6 : c6 = .int .i64 a6 := by have := congrArg (·[0]?) e6; simpa [cells_int, Value.cells] using this
 have k7 : c7 = .int .i64 a7 := by have := congrArg (·[0]?) e7; simpa [cells_int, Value.cells] using this
 have hd : d = .agg [y0.1, y1.1, y2.1, y3.1, y4.1, y5.1, y6.1] := by
  have := congrArg Prod.fst hx
  simpa using this
 have hw : ∀ parts : List (DataW H), (DataW.agg parts).weights Tryz.prog 25 = DataW.weightsEach Tryz.prog [23, 3, 4, 3, 3, 3, 3] parts := fun parts => by
  unfold DataW.weights
  rw [Tryz.underlying25]
  rfl
 have hw2 : ∀ parts : List (DataW H), (DataW.agg parts).weights Tryz.prog 23 = DataW.weightsEach Tryz.prog [9, 9] parts := fun parts => by
  unfold DataW.weights
  rw [Tryz.underlying23]
  rfl
 have hw3 : ∀ a : ByteArray, a.size ∈ (DataW.lit (.string a.data.toList) : DataW H).weights Tryz.prog 9 := fun a => by
  unfold DataW.weights
  have : a.data.toList.length = a.size := Array.length_toList
  rw [this]
  exact List.mem_singleton.2 rfl
 refine ⟨a0, a1, a2, a3, a4, a5, a6, a7, by rw [e0, e1, k2, k3, k4, k5, k6, k7], ?_, ?_, bounds_i64 w4, bounds_i64 w5, bounds_i64 w6, bounds_i64 w7⟩
 ·rw [hd, hw, x0]
  refine DataW.weights_mem_each (j := 0) rfl rfl _ ?_
  rw [hw2]
  exact DataW.weights_mem_each (j := 0) rfl rfl _ (hw3 a0)
 rw [hd, hw, x0]
 refine DataW.weights_mem_each (j := 0) rfl rfl _ ?_
 rw [hw2]
 exact DataW.weights_mem_each (j := 1) rfl rfl _ (hw3 a1)
theorem sized_sub {H : Type} {P : Program} {ts : List TypeId} {ds : List (DataW H)} (h : (DataW.weightsEach P ts ds).all (· ≤ reachBytes) = true) {j : Nat} {t : TypeId} {d : DataW H} (ht : ts[j]? = some t) (hd : ds[j]? = some d) {n : Nat} (hn : n ∈ d.weights P t) : n ≤ 140737488355328 := by
 have h1 := List.all_eq_true.1 h _ (DataW.weights_mem_each ht hd n hn)
 have h2 := reachBytes_lt
 have h3 : n ≤ reachBytes := by simpa using h1
 omega
end Go.Proofs.YtnnlhpmkfijppaaGreatDoor.Fn
