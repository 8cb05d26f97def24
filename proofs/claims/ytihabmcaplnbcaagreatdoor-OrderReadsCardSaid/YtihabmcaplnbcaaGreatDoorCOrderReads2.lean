/- A part of the proof of this sentence: OrderReads (35.5): the commands of any mail, as a member may send it, are as the document reads them; of at most 30 fields, names of at most 200, values and body of at most 3000 bytes. -/
import Derived.Test.YtihabmcaplnbcaaGreatDoorCOrderReads1
namespace Go.Proofs.YtihabmcaplnbcaaGreatDoor.Fn
open Go.RowKit Go.Proofs.YtihabmcaplnbcaaGreatDoorW.PrintWords Go.Proofs.YtihabmcaplnbcaaGreatDoorW.PrintLast Go.Proofs.YtihabmcaplnbcaaGreatDoorW.PrintMore
attribute [local go_sem] max2_int min2_int max_two min_two max_three min_three max_four min_four
set_option linter.unusedVariables false
set_option linter.unusedSimpArgs false
def bulletinref06_Write.f (a0 : Int) : Option (ByteArray) := if a0 < 128 then (some (strOfNums (([(a0) % 256] : List Int)))) else (if a0 < 2048 then (some (strOfNums (([(wrap64 (192 + (wrap64 (Int.tdiv a0 64)))) % 256, (wrap64 (128 + (Int.tmod a0 64))) % 256] : List Int)))) else (if a0 < 65536 then (some (strOfNums (([(wrap64 (224 + (wrap64 (Int.tdiv a0 4096)))) % 256, (wrap64 (128 + (Int.tmod (wrap64 (Int.tdiv a0 64)) 64))) % 256, (wrap64 (128 + (Int.tmod a0 64))) % 256] : List Int)))) else (some (strOfNums (([(wrap64 (240 + (wrap64 (Int.tdiv a0 262144)))) % 256, (wrap64 (128 + (Int.tmod (wrap64 (Int.tdiv a0 4096)) 64))) % 256, (wrap64 (128 + (Int.tmod (wrap64 (Int.tdiv a0 64)) 64))) % 256, (wrap64 (128 + (Int.tmod a0 64))) % 256] : List Int))))))
set_option maxHeartbeats 8000000 in
set_option maxRecDepth 100000 in
theorem bulletinref06_Write.calls (a0 : Int) (r : ByteArray) (w : World) (h : bulletinref06_Write.f a0 = some r) :
  Calls Tryz.prog 145 #[.int .i64 a0] w fun e w' => e = .returned (.string r) ∧ Below w.heap.size w w' := by
 have HB := Aside0.mk (Below.refl w.heap.size w); have H : (if a0 < 128 then (some (strOfNums (([(a0) % 256] : List Int)))) else (if a0 < 2048 then (some (strOfNums (([(wrap64 (192 + (wrap64 (Int.tdiv a0 64)))) % 256, (wrap64 (128 + (Int.tmod a0 64))) % 256] : List Int)))) else (if a0 < 65536 then (some (strOfNums (([(wrap64 (224 + (wrap64 (Int.tdiv a0 4096)))) % 256, (wrap64 (128 + (Int.tmod (wrap64 (Int.tdiv a0 64)) 64))) % 256, (wrap64 (128 + (Int.tmod a0 64))) % 256] : List Int)))) else (some (strOfNums (([(wrap64 (240 + (wrap64 (Int.tdiv a0 262144)))) % 256, (wrap64 (128 + (Int.tmod (wrap64 (Int.tdiv a0 4096)) 64))) % 256, (wrap64 (128 + (Int.tmod (wrap64 (Int.tdiv a0 64)) 64))) % 256, (wrap64 (128 + (Int.tmod a0 64))) % 256] : List Int))))))) = some r := h; clear h
 by_cases c2 : a0 < 128
 ·rw [if_pos c2] at H; have c2b0 := decide_eq_true c2; clear c2; obtain ⟨y835, hy835⟩ : ∃ y_ : List Int, y_ = (([(a0) % 256] : List Int)) := ⟨_, rfl⟩
  replace H : (some (strOfNums y835)) = some r := by first | (rw [hy835]; with_reducible exact H) | (have H2_ := (Option.bind_some _ _).symm.trans H; rw [hy835]; with_reducible exact H2_) | (have H2_ := (Option.bind_some _ _).symm.trans H; with_reducible exact H2_) | with_reducible exact H | (rw [hy835]; exact H) | exact H
  have Ny835 := Aside0.mk hy835; clear hy835; obtain rfl := Option.some.inj H
  go_enter Tryz.func145, Tryz.ntmps145
  go_wp2_with (first | ((with_reducible refine gate_dst (N := 7) rfl ?_); refine Kd.R_lit (Kd.int .u8) _ 5 ?hg (N := 7) ?hd (xs := ([(a0) % 256] : List Int)) (inner := [.int .u8 ((a0) % 256)]) (ok := fun _ => True) (okp := fun _ => True) ?hr ?hp (fun _ hk => hk) trivial (Below.refl _ _) (Nat.le_refl _) (by simp) ?_; (case hd => rfl); (case hg => rfl); (case hr => first | (go_simp; done) | (go_simp; rfl)); (case hp => exact (Reps.one (show Kd.M (Kd.int .u8) _ _ _ ((a0) % 256) [.int .u8 ((a0) % 256)] from rfl) (Reps.none _ _))); intro v836 w3 ho4 hb hg_ hnew_; clear hg_ hnew_; (first | rw [← Ny835.out] at ho4 | (simp only [Int.reduceToNat] at ho4; rw [← Ny835.out] at ho4)); have n0_ := Aside0.mk (Kd.R_lower ho4 (below_size bw)); have n1_ := Aside0.mk (below_step bw hb); clear HB; have HO837 := n0_; have HB := n1_; clear n0_ n1_; clear hb ho4; have hcv5 := own_string (P := Tryz.prog) Tryz.underlying125 Tryz.underlying5 Tryz.underlying9 (Kd.own_of_R HO837.out)))
  go_ret
  exact ⟨ew, bw⟩
 rw [if_neg c2] at H; have c2b0 := decide_eq_false c2; clear c2
 by_cases c6 : a0 < 2048
 ·rw [if_pos c6] at H; have c6b0 := decide_eq_true c6; clear c6; obtain ⟨y838, hy838⟩ : ∃ y_ : List Int, y_ = (([(wrap64 (192 + (wrap64 (Int.tdiv a0 64)))) % 256, (wrap64 (128 + (Int.tmod a0 64))) % 256] : List Int)) := ⟨_, rfl⟩
  replace H : (some (strOfNums y838)) = some r := by first | (rw [hy838]; with_reducible exact H) | (have H2_ := (Option.bind_some _ _).symm.trans H; rw [hy838]; with_reducible exact H2_) | (have H2_ := (Option.bind_some _ _).symm.trans H; with_reducible exact H2_) | with_reducible exact H | (rw [hy838]; exact H) | exact H
  have Ny838 := Aside0.mk hy838; clear hy838; obtain rfl := Option.some.inj H
  go_enter Tryz.func145, Tryz.ntmps145
  go_wp2_with (first | ((with_reducible refine gate_dst (N := 19) rfl ?_); refine Kd.R_lit (Kd.int .u8) _ 5 ?hg (N := 19) ?hd (xs := ([(wrap64 (192 + (wrap64 (Int.tdiv a0 64)))) % 256, (wrap64 (128 + (Int.tmod a0 64))) % 256] : List Int)) (inner := [.int .u8 ((wrap64 (192 + (wrap64 (Int.tdiv a0 64)))) % 256), .int .u8 ((wrap64 (128 + (Int.tmod a0 64))) % 256)]) (ok := fun _ => True) (okp := fun _ => True) ?hr ?hp (fun _ hk => hk) trivial (Below.refl _ _) (Nat.le_refl _) (by simp) ?_; (case hd => rfl); (case hg => rfl); (case hr => first | (go_simp; done) | (go_simp; rfl)); (case hp => exact (Reps.one (show Kd.M (Kd.int .u8) _ _ _ ((wrap64 (192 + (wrap64 (Int.tdiv a0 64)))) % 256) [.int .u8 ((wrap64 (192 + (wrap64 (Int.tdiv a0 64)))) % 256)] from rfl) (Reps.one (show Kd.M (Kd.int .u8) _ _ _ ((wrap64 (128 + (Int.tmod a0 64))) % 256) [.int .u8 ((wrap64 (128 + (Int.tmod a0 64))) % 256)] from rfl) (Reps.none _ _)))); intro v839 w7 ho8 hb hg_ hnew_; clear hg_ hnew_; (first | rw [← Ny838.out] at ho8 | (simp only [Int.reduceToNat] at ho8; rw [← Ny838.out] at ho8)); have n0_ := Aside0.mk (Kd.R_lower ho8 (below_size bw)); have n1_ := Aside0.mk (below_step bw hb); clear HB; have HO840 := n0_; have HB := n1_; clear n0_ n1_; clear hb ho8; have hcv9 := own_string (P := Tryz.prog) Tryz.underlying125 Tryz.underlying5 Tryz.underlying9 (Kd.own_of_R HO840.out)))
  go_ret
  exact ⟨ew, bw⟩
 rw [if_neg c6] at H; have c6b0 := decide_eq_false c6; clear c6
 by_cases c10 : a0 < 65536
 ·rw [if_pos c10] at H; have c10b0 := decide_eq_true c10; clear c10; obtain ⟨y841, hy841⟩ : ∃ y_ : List Int, y_ = (([(wrap64 (224 + (wrap64 (Int.tdiv a0 4096)))) % 256, (wrap64 (128 + (Int.tmod (wrap64 (Int.tdiv a0 64)) 64))) % 256, (wrap64 (128 + (Int.tmod a0 64))) % 256] : List Int)) := ⟨_, rfl⟩
  replace H : (some (strOfNums y841)) = some r := by first | (rw [hy841]; with_reducible exact H) | (have H2_ := (Option.bind_some _ _).symm.trans H; rw [hy841]; with_reducible exact H2_) | (have H2_ := (Option.bind_some _ _).symm.trans H; with_reducible exact H2_) | with_reducible exact H | (rw [hy841]; exact H) | exact H
  have Ny841 := Aside0.mk hy841; clear hy841; obtain rfl := Option.some.inj H
  go_enter Tryz.func145, Tryz.ntmps145
  go_wp2_with (first | ((with_reducible refine gate_dst (N := 36) rfl ?_); refine Kd.R_lit (Kd.int .u8) _ 5 ?hg (N := 36) ?hd (xs := ([(wrap64 (224 + (wrap64 (Int.tdiv a0 4096)))) % 256, (wrap64 (128 + (Int.tmod (wrap64 (Int.tdiv a0 64)) 64))) % 256, (wrap64 (128 + (Int.tmod a0 64))) % 256] : List Int)) (inner := [.int .u8 ((wrap64 (224 + (wrap64 (Int.tdiv a0 4096)))) % 256), .int .u8 ((wrap64 (128 + (Int.tmod (wrap64 (Int.tdiv a0 64)) 64))) % 256), .int .u8 ((wrap64 (128 + (Int.tmod a0 64))) % 256)]) (ok := fun _ => True) (okp := fun _ => True) ?hr ?hp (fun _ hk => hk) trivial (Below.refl _ _) (Nat.le_refl _) (by simp) ?_; (case hd => rfl); (case hg => rfl); (case hr => first | (go_simp; done) | (go_simp; rfl)); (case hp => exact (Reps.one (show Kd.M (Kd.int .u8) _ _ _ ((wrap64 (224 + (wrap64 (Int.tdiv a0 4096)))) % 256) [.int .u8 ((wrap64 (224 + (wrap64 (Int.tdiv a0 4096)))) % 256)] from rfl) (Reps.one (show Kd.M (Kd.int .u8) _ _ _ ((wrap64 (128 + (Int.tmod (wrap64 (Int.tdiv a0 64)) 64))) % 256) [.int .u8 ((wrap64 (128 + (Int.tmod (wrap64 (Int.tdiv a0 64)) 64))) % 256)] from rfl) (Reps.one (show Kd.M (Kd.int .u8) _ _ _ ((wrap64 (128 + (Int.tmod a0 64))) % 256) [.int .u8 ((wrap64 (128 + (Int.tmod a0 64))) % 256)] from rfl) (Reps.none _ _))))); intro v842 w11 ho12 hb hg_ hnew_; clear hg_ hnew_; (first | rw [← Ny841.out] at ho12 | (simp only [Int.reduceToNat] at ho12; rw [← Ny841.out] at ho12)); have n0_ := Aside0.mk (Kd.R_lower ho12 (below_size bw)); have n1_ := Aside0.mk (below_step bw hb); clear HB; have HO843 := n0_; have HB := n1_; clear n0_ n1_; clear hb ho12; have hcv13 := own_string (P := Tryz.prog) Tryz.underlying125 Tryz.underlying5 Tryz.underlying9 (Kd.own_of_R HO843.out)))
  go_ret
  exact ⟨ew, bw⟩
 rw [if_neg c10] at H; have c10b0 := decide_eq_false c10; clear c10; obtain ⟨y844, hy844⟩ : ∃ y_ : List Int, y_ = (([(wrap64 (240 + (wrap64 (Int.tdiv a0 262144)))) % 256, (wrap64 (128 + (Int.tmod (wrap64 (Int.tdiv a0 4096)) 64))) % 256, (wrap64 (128 + (Int.tmod (wrap64 (Int.tdiv a0 64)) 64))) % 256, (wrap64 (128 + (Int.tmod a0 64))) % 256] : List Int)) := ⟨_, rfl⟩
 replace H : (some (strOfNums y844)) = some r := by first | (rw [hy844]; with_reducible exact H) | (have H2_ := (Option.bind_some _ _).symm.trans H; rw [hy844]; with_reducible exact H2_) | (have H2_ := (Option.bind_some _ _).symm.trans H; with_reducible exact H2_) | with_reducible exact H | (rw [hy844]; exact H) | exact H
 have Ny844 := Aside0.mk hy844; clear hy844; obtain rfl := Option.some.inj H
 go_enter Tryz.func145, Tryz.ntmps145
 go_wp2_with (first | ((with_reducible refine gate_dst (N := 56) rfl ?_); refine Kd.R_lit (Kd.int .u8) _ 5 ?hg (N := 56) ?hd (xs := ([(wrap64 (240 + (wrap64 (Int.tdiv a0 262144)))) % 256, (wrap64 (128 + (Int.tmod (wrap64 (Int.tdiv a0 4096)) 64))) % 256, (wrap64 (128 + (Int.tmod (wrap64 (Int.tdiv a0 64)) 64))) % 256, (wrap64 (128 + (Int.tmod a0 64))) % 256] : List Int)) (inner := [.int .u8 ((wrap64 (240 + (wrap64 (Int.tdiv a0 262144)))) % 256), .int .u8 ((wrap64 (128 + (Int.tmod (wrap64 (Int.tdiv a0 4096)) 64))) % 256), .int .u8 ((wrap64 (128 + (Int.tmod (wrap64 (Int.tdiv a0 64)) 64))) % 256), .int .u8 ((wrap64 (128 + (Int.tmod a0 64))) % 256)]) (ok := fun _ => True) (okp := fun _ => True) ?hr ?hp (fun _ hk => hk) trivial (Below.refl _ _) (Nat.le_refl _) (by simp) ?_; (case hd => rfl); (case hg => rfl); (case hr => first | (go_simp; done) | (go_simp; rfl)); (case hp => exact (Reps.one (show Kd.M (Kd.int .u8) _ _ _ ((wrap64 (240 + (wrap64 (Int.tdiv a0 262144)))) % 256) [.int .u8 ((wrap64 (240 + (wrap64 (Int.tdiv a0 262144)))) % 256)] from rfl) (Reps.one (show Kd.M (Kd.int .u8) _ _ _ ((wrap64 (128 + (Int.tmod (wrap64 (Int.tdiv a0 4096)) 64))) % 256) [.int .u8 ((wrap64 (128 + (Int.tmod (wrap64 (Int.tdiv a0 4096)) 64))) % 256)] from rfl) (Reps.one (show Kd.M (Kd.int .u8) _ _ _ ((wrap64 (128 + (Int.tmod (wrap64 (Int.tdiv a0 64)) 64))) % 256) [.int .u8 ((wrap64 (128 + (Int.tmod (wrap64 (Int.tdiv a0 64)) 64))) % 256)] from rfl) (Reps.one (show Kd.M (Kd.int .u8) _ _ _ ((wrap64 (128 + (Int.tmod a0 64))) % 256) [.int .u8 ((wrap64 (128 + (Int.tmod a0 64))) % 256)] from rfl) (Reps.none _ _)))))); intro v845 w14 ho15 hb hg_ hnew_; clear hg_ hnew_; (first | rw [← Ny844.out] at ho15 | (simp only [Int.reduceToNat] at ho15; rw [← Ny844.out] at ho15)); have n0_ := Aside0.mk (Kd.R_lower ho15 (below_size bw)); have n1_ := Aside0.mk (below_step bw hb); clear HB; have HO846 := n0_; have HB := n1_; clear n0_ n1_; clear hb ho15; have hcv16 := own_string (P := Tryz.prog) Tryz.underlying125 Tryz.underlying5 Tryz.underlying9 (Kd.own_of_R HO846.out)))
 go_ret
 exact ⟨ew, bw⟩

def bulletinref06_Clean.l0 : Nat → List Int → ByteArray → Int → Option (ByteArray)
 | 0, _, _, _ => none
 | k + 1, x3, x4, x5 => if x5 < (x3.length : Int) then (if 0 ≤ x5 then (if (rd x3 x5) = (-1) then (if 65533 < 32 then ((bulletinref06_Write.f 32).bind fun t851 => (if x4.size + t851.size ≤ 9223372036854775807 then (bulletinref06_Clean.l0 k x3 (x4 ++ t851) (wrap64 (x5 + 1))) else (none))) else (if 65533 ≥ 127 then (if 65533 ≤ 159 then ((bulletinref06_Write.f 32).bind fun t852 => (if x4.size + t852.size ≤ 9223372036854775807 then (bulletinref06_Clean.l0 k x3 (x4 ++ t852) (wrap64 (x5 + 1))) else (none))) else ((bulletinref06_Write.f 65533).bind fun t853 => (if x4.size + t853.size ≤ 9223372036854775807 then (bulletinref06_Clean.l0 k x3 (x4 ++ t853) (wrap64 (x5 + 1))) else (none)))) else ((bulletinref06_Write.f 65533).bind fun t854 => (if x4.size + t854.size ≤ 9223372036854775807 then (bulletinref06_Clean.l0 k x3 (x4 ++ t854) (wrap64 (x5 + 1))) else (none))))) else (if (rd x3 x5) < 32 then ((bulletinref06_Write.f 32).bind fun t855 => (if x4.size + t855.size ≤ 9223372036854775807 then (bulletinref06_Clean.l0 k x3 (x4 ++ t855) (wrap64 (x5 + 1))) else (none))) else (if (rd x3 x5) ≥ 127 then (if (rd x3 x5) ≤ 159 then ((bulletinref06_Write.f 32).bind fun t856 => (if x4.size + t856.size ≤ 9223372036854775807 then (bulletinref06_Clean.l0 k x3 (x4 ++ t856) (wrap64 (x5 + 1))) else (none))) else ((bulletinref06_Write.f (rd x3 x5)).bind fun t857 => (if x4.size + t857.size ≤ 9223372036854775807 then (bulletinref06_Clean.l0 k x3 (x4 ++ t857) (wrap64 (x5 + 1))) else (none)))) else ((bulletinref06_Write.f (rd x3 x5)).bind fun t858 => (if x4.size + t858.size ≤ 9223372036854775807 then (bulletinref06_Clean.l0 k x3 (x4 ++ t858) (wrap64 (x5 + 1))) else (none)))))) else (none)) else (some x4)
def bulletinref06_Clean.f (k : Nat) (a0 : ByteArray) : Option (ByteArray) := (bulletinref06_Signs.f k a0).bind fun t847 => (bulletinref06_Clean.l0 k t847 (⟨#[]⟩ : ByteArray) 0)
set_option maxHeartbeats 8000000 in
set_option maxRecDepth 100000 in
theorem bulletinref06_Clean.calls (k : Nat) (a0 : ByteArray) (r : ByteArray) (w : World) (h : bulletinref06_Clean.f k a0 = some r) :
  Calls Tryz.prog 99 #[.string a0] w fun e w' => e = .returned (.string r) ∧ Below w.heap.size w w' := by
 have HB := Aside0.mk (Below.refl w.heap.size w); have H : ((bulletinref06_Signs.f k a0).bind fun t847 => (bulletinref06_Clean.l0 k t847 (⟨#[]⟩ : ByteArray) 0)) = some r := h; clear h; replace H := Option.bind_eq_some_iff.mp H; obtain ⟨t847, A20, H⟩ := H; have A2 := Aside0.mk A20; clear A20; have H' := Aside0.mk H; clear H
 go_enter Tryz.func99, Tryz.ntmps99
 go_wp2_with (first | ((with_reducible refine gate_callee (f := 144) rfl ?_); refine goesL_ (some 8) rfl rfl Tryz.func144 (by kernel_rfl) rfl #[.string a0] rfl am ?_; (with_reducible refine (bulletinref06_Signs.calls k a0 t847 _ A2.out).mono ?_); rintro e w3 ⟨v848, rfl, ho0, hb⟩; refine ⟨_, rfl, ?_⟩; have n0_ := Aside0.mk (Kd.R_lower ho0 (below_size bw)); have n1_ := Aside0.mk (below_step bw hb); clear HB; have HO849 := n0_; have HB := n1_; clear n0_ n1_; (try clear hb); (try clear hb2); (try clear hk); (try clear hi); (try clear ho0)))
 go_loopg [4, 5] k (fun kq v4 v5 w' => ∃ (x4_1 : ByteArray) (x5_1 : Int), v4 = .string x4_1 ∧ v5 = .int .i64 x5_1 ∧ Aside0 (bulletinref06_Clean.l0 kq t847 x4_1 x5_1 = some r) ∧ Aside0 (kq ≤ k) ∧ Aside0 (Kd.R (Kd.int .i64) 3 w' w.heap.size (fun _ => True) v848 t847) ∧ Aside0 (Below w.heap.size w w'))
 case atStart => exact ⟨((⟨#[]⟩ : ByteArray)), (0), cl, cl, H', ⟨Nat.le_refl _⟩, ⟨ra HO849.out⟩, ⟨bw⟩⟩
 case round =>
  clear H'
  try clear c1
  try clear p2
  obtain ⟨x4_1, x5_1, rfl, rfl, HA, HK1, HO_3, HB⟩ := hrel; cases gk with
  | zero => exact absurd HA.out (by simp [bulletinref06_Clean.l0])
  | succ k1 =>
   have H := HA.out; clear HA; simp only [bulletinref06_Clean.l0] at H
   by_cases c4 : x5_1 < (t847.length : Int)
   ·rw [if_pos c4] at H; have c4b0 := decide_eq_true c4; clear c4
    by_cases c5 : 0 ≤ x5_1
    ·rw [if_pos c5] at H; have c5b0 := decide_eq_true c5; clear c5
     by_cases c6 : (rd t847 x5_1) = (-1)
     ·rw [if_pos c6] at H; have c6b0 := beq_iff_eq.mpr c6; have c6b1 := bne_eq_false_iff_eq.mpr c6; clear c6
      by_cases c7 : 65533 < 32
      ·exact absurd c7 (by decide)
      rw [if_neg c7] at H; have c7b0 := decide_eq_false c7; clear c7
      by_cases c12 : 65533 ≥ 127
      ·rw [if_pos c12] at H; have c12b0 : decide (127 ≤ 65533) = true := decide_eq_true c12; clear c12
       by_cases c13 : 65533 ≤ 159
       ·exact absurd c13 (by decide)
       rw [if_neg c13] at H; have c13b0 := decide_eq_false c13; clear c13; replace H := Option.bind_eq_some_iff.mp H; obtain ⟨t853, A180, H⟩ := H; have A18 := Aside0.mk A180; clear A180
       by_cases c19 : x4_1.size + t853.size ≤ 9223372036854775807
       ·rw [if_pos c19] at H; have c19b0 := eq_true c19; have c19b1 := decide_eq_true c19
        try have c19b2 : (9223372036854775807 < x4_1.size + t853.size) = False := eq_false (Nat.not_lt.2 c19)
        have H' := Aside0.mk H; clear H; obtain ⟨Ao20, co20, eo20⟩ := Kd.R_slice HO_3.out; subst eo20; have p850 : 0 ≤ (x5_1 : Int) := od; have q850 : x5_1 < (t847.length : Int) := od; obtain ⟨ad850, e850, hx850_0⟩ := Kd.at_int (Kd.R_reads' HO_3.out).2.2 x5_1 p850 q850; cases e850; replace p850 := eq_true p850; replace q850 := eq_true q850
        go_wp2_with (first | ((with_reducible refine gate_callee (f := 145) rfl ?_); refine goesL_ (some 33) rfl rfl Tryz.func145 (by kernel_rfl) rfl #[.int .i64 65533] rfl am ?_; (with_reducible refine (bulletinref06_Write.calls 65533 t853 _ A18.out).mono ?_); rintro e w21 ⟨rfl, hb⟩; refine ⟨_, rfl, ?_⟩; have n0_ := Aside0.mk (Kd.R_below (ra HO_3.out) hb); have n1_ := Aside0.mk (below_step bw hb); clear HO_3; clear HB; have HO_3 := n0_; have HB := n1_; clear n0_ n1_; (try clear hb); (try clear hb2); (try clear hk); (try clear hi)))
        go_roundg k1
        case measure => have := HK1.out; omega
        case rel => exact ⟨(x4_1 ++ t853), (wrap64 (x5_1 + 1)), cl, cl, H', ⟨by have := HK1.out; omega⟩, ⟨ra HO_3.out⟩, ⟨bw⟩⟩
       rw [if_neg c19] at H; exact absurd H (by simp)
      exact absurd c12 (by decide)
     rw [if_neg c6] at H; have c6b0 := beq_eq_false_iff_ne.mpr c6; have c6b1 := bne_iff_ne.mpr c6
     by_cases c26 : (rd t847 x5_1) < 32
     ·rw [if_pos c26] at H; have c26b0 := decide_eq_true c26; clear c26; replace H := Option.bind_eq_some_iff.mp H; obtain ⟨t855, A270, H⟩ := H; have A27 := Aside0.mk A270; clear A270
      by_cases c28 : x4_1.size + t855.size ≤ 9223372036854775807
      ·rw [if_pos c28] at H; have c28b0 := eq_true c28; have c28b1 := decide_eq_true c28
       try have c28b2 : (9223372036854775807 < x4_1.size + t855.size) = False := eq_false (Nat.not_lt.2 c28)
       have H' := Aside0.mk H; clear H; obtain ⟨Ao29, co29, eo29⟩ := Kd.R_slice HO_3.out; subst eo29; have p850 : 0 ≤ (x5_1 : Int) := od; have q850 : x5_1 < (t847.length : Int) := od; obtain ⟨ad850, e850, hx850_0⟩ := Kd.at_int (Kd.R_reads' HO_3.out).2.2 x5_1 p850 q850; cases e850; replace p850 := eq_true p850; replace q850 := eq_true q850
       go_wp2_with (first | ((with_reducible refine gate_callee (f := 145) rfl ?_); refine goesL_ (some 33) rfl rfl Tryz.func145 (by kernel_rfl) rfl #[.int .i64 32] rfl am ?_; (with_reducible refine (bulletinref06_Write.calls 32 t855 _ A27.out).mono ?_); rintro e w30 ⟨rfl, hb⟩; refine ⟨_, rfl, ?_⟩; have n0_ := Aside0.mk (Kd.R_below (ra HO_3.out) hb); have n1_ := Aside0.mk (below_step bw hb); clear HO_3; clear HB; have HO_3 := n0_; have HB := n1_; clear n0_ n1_; (try clear hb); (try clear hb2); (try clear hk); (try clear hi)))
       go_roundg k1
       case measure => have := HK1.out; omega
       case rel => exact ⟨(x4_1 ++ t855), (wrap64 (x5_1 + 1)), cl, cl, H', ⟨by have := HK1.out; omega⟩, ⟨ra HO_3.out⟩, ⟨bw⟩⟩
      rw [if_neg c28] at H; exact absurd H (by simp)
     rw [if_neg c26] at H; have c26b0 := decide_eq_false c26; clear c26
     by_cases c31 : (rd t847 x5_1) ≥ 127
     ·rw [if_pos c31] at H; have c31b0 : decide (127 ≤ (rd t847 x5_1)) = true := decide_eq_true c31; clear c31
      by_cases c32 : (rd t847 x5_1) ≤ 159
      ·rw [if_pos c32] at H; have c32b0 := decide_eq_true c32; clear c32; replace H := Option.bind_eq_some_iff.mp H; obtain ⟨t856, A330, H⟩ := H; have A33 := Aside0.mk A330; clear A330
       by_cases c34 : x4_1.size + t856.size ≤ 9223372036854775807
       ·rw [if_pos c34] at H; have c34b0 := eq_true c34; have c34b1 := decide_eq_true c34
        try have c34b2 : (9223372036854775807 < x4_1.size + t856.size) = False := eq_false (Nat.not_lt.2 c34)
        have H' := Aside0.mk H; clear H; obtain ⟨Ao35, co35, eo35⟩ := Kd.R_slice HO_3.out; subst eo35; have p850 : 0 ≤ (x5_1 : Int) := od; have q850 : x5_1 < (t847.length : Int) := od; obtain ⟨ad850, e850, hx850_0⟩ := Kd.at_int (Kd.R_reads' HO_3.out).2.2 x5_1 p850 q850; cases e850; replace p850 := eq_true p850; replace q850 := eq_true q850
        go_wp2_with (first | ((with_reducible refine gate_callee (f := 145) rfl ?_); refine goesL_ (some 33) rfl rfl Tryz.func145 (by kernel_rfl) rfl #[.int .i64 32] rfl am ?_; (with_reducible refine (bulletinref06_Write.calls 32 t856 _ A33.out).mono ?_); rintro e w36 ⟨rfl, hb⟩; refine ⟨_, rfl, ?_⟩; have n0_ := Aside0.mk (Kd.R_below (ra HO_3.out) hb); have n1_ := Aside0.mk (below_step bw hb); clear HO_3; clear HB; have HO_3 := n0_; have HB := n1_; clear n0_ n1_; (try clear hb); (try clear hb2); (try clear hk); (try clear hi)))
        go_roundg k1
        case measure => have := HK1.out; omega
        case rel => exact ⟨(x4_1 ++ t856), (wrap64 (x5_1 + 1)), cl, cl, H', ⟨by have := HK1.out; omega⟩, ⟨ra HO_3.out⟩, ⟨bw⟩⟩
       rw [if_neg c34] at H; exact absurd H (by simp)
      rw [if_neg c32] at H; have c32b0 := decide_eq_false c32; clear c32; replace H := Option.bind_eq_some_iff.mp H; obtain ⟨t857, A370, H⟩ := H; have A37 := Aside0.mk A370; clear A370
      by_cases c38 : x4_1.size + t857.size ≤ 9223372036854775807
      ·rw [if_pos c38] at H; have c38b0 := eq_true c38; have c38b1 := decide_eq_true c38
       try have c38b2 : (9223372036854775807 < x4_1.size + t857.size) = False := eq_false (Nat.not_lt.2 c38)
       have H' := Aside0.mk H; clear H; obtain ⟨Ao39, co39, eo39⟩ := Kd.R_slice HO_3.out; subst eo39; have p850 : 0 ≤ (x5_1 : Int) := od; have q850 : x5_1 < (t847.length : Int) := od; obtain ⟨ad850, e850, hx850_0⟩ := Kd.at_int (Kd.R_reads' HO_3.out).2.2 x5_1 p850 q850; cases e850; replace p850 := eq_true p850; replace q850 := eq_true q850
       go_wp2_with (first | ((with_reducible refine gate_callee (f := 145) rfl ?_); refine goesL_ (some 33) rfl rfl Tryz.func145 (by kernel_rfl) rfl #[.int .i64 (rd t847 x5_1)] rfl am ?_; (with_reducible refine (bulletinref06_Write.calls (rd t847 x5_1) t857 _ A37.out).mono ?_); rintro e w40 ⟨rfl, hb⟩; refine ⟨_, rfl, ?_⟩; have n0_ := Aside0.mk (Kd.R_below (ra HO_3.out) hb); have n1_ := Aside0.mk (below_step bw hb); clear HO_3; clear HB; have HO_3 := n0_; have HB := n1_; clear n0_ n1_; (try clear hb); (try clear hb2); (try clear hk); (try clear hi)))
       go_roundg k1
       case measure => have := HK1.out; omega
       case rel => exact ⟨(x4_1 ++ t857), (wrap64 (x5_1 + 1)), cl, cl, H', ⟨by have := HK1.out; omega⟩, ⟨ra HO_3.out⟩, ⟨bw⟩⟩
      rw [if_neg c38] at H; exact absurd H (by simp)
     rw [if_neg c31] at H; have c31b0 : decide (127 ≤ (rd t847 x5_1)) = false := decide_eq_false c31; clear c31; replace H := Option.bind_eq_some_iff.mp H; obtain ⟨t858, A410, H⟩ := H; have A41 := Aside0.mk A410; clear A410
     by_cases c42 : x4_1.size + t858.size ≤ 9223372036854775807
     ·rw [if_pos c42] at H; have c42b0 := eq_true c42; have c42b1 := decide_eq_true c42
      try have c42b2 : (9223372036854775807 < x4_1.size + t858.size) = False := eq_false (Nat.not_lt.2 c42)
      have H' := Aside0.mk H; clear H; obtain ⟨Ao43, co43, eo43⟩ := Kd.R_slice HO_3.out; subst eo43; have p850 : 0 ≤ (x5_1 : Int) := od; have q850 : x5_1 < (t847.length : Int) := od; obtain ⟨ad850, e850, hx850_0⟩ := Kd.at_int (Kd.R_reads' HO_3.out).2.2 x5_1 p850 q850; cases e850; replace p850 := eq_true p850; replace q850 := eq_true q850
      go_wp2_with (first | ((with_reducible refine gate_callee (f := 145) rfl ?_); refine goesL_ (some 33) rfl rfl Tryz.func145 (by kernel_rfl) rfl #[.int .i64 (rd t847 x5_1)] rfl am ?_; (with_reducible refine (bulletinref06_Write.calls (rd t847 x5_1) t858 _ A41.out).mono ?_); rintro e w44 ⟨rfl, hb⟩; refine ⟨_, rfl, ?_⟩; have n0_ := Aside0.mk (Kd.R_below (ra HO_3.out) hb); have n1_ := Aside0.mk (below_step bw hb); clear HO_3; clear HB; have HO_3 := n0_; have HB := n1_; clear n0_ n1_; (try clear hb); (try clear hb2); (try clear hk); (try clear hi)))
      go_roundg k1
      case measure => have := HK1.out; omega
      case rel => exact ⟨(x4_1 ++ t858), (wrap64 (x5_1 + 1)), cl, cl, H', ⟨by have := HK1.out; omega⟩, ⟨ra HO_3.out⟩, ⟨bw⟩⟩
     rw [if_neg c42] at H; exact absurd H (by simp)
    rw [if_neg c5] at H; exact absurd H (by simp)
   rw [if_neg c4] at H; have c4b0 := decide_eq_false c4; clear c4; obtain rfl := Option.some.inj H; obtain ⟨Ao45, co45, eo45⟩ := Kd.R_slice HO_3.out; subst eo45
   go_wp2
   go_ret
   exact ⟨ew, bw⟩

def bulletinref06_Fold.l0 : Nat → ByteArray → ByteArray → Int → Option (ByteArray)
 | 0, _, _, _ => none
 | k + 1, x0, x3, x4 => if x4 < (x0.size : Int) then (if 0 ≤ x4 then (if (bt x0 x4) ≥ 65 then (if (bt x0 x4) ≤ 90 then ((some (([((bt x0 x4) + 32) % 256] : List Int) : List Int)).bind fun y524 => (if x3.size + (strOfNums y524).size ≤ 9223372036854775807 then (bulletinref06_Fold.l0 k x0 (x3 ++ (strOfNums y524)) (wrap64 (x4 + 1))) else (none))) else (if x4 ≤ (wrap64 (x4 + 1)) then (if (wrap64 (x4 + 1)) ≤ (x0.size : Int) then (if x3.size + (x0.extract (x4 : Int).toNat ((wrap64 (x4 + 1)) : Int).toNat).size ≤ 9223372036854775807 then (bulletinref06_Fold.l0 k x0 (x3 ++ (x0.extract (x4 : Int).toNat ((wrap64 (x4 + 1)) : Int).toNat)) (wrap64 (x4 + 1))) else (none)) else (none)) else (none))) else (if x4 ≤ (wrap64 (x4 + 1)) then (if (wrap64 (x4 + 1)) ≤ (x0.size : Int) then (if x3.size + (x0.extract (x4 : Int).toNat ((wrap64 (x4 + 1)) : Int).toNat).size ≤ 9223372036854775807 then (bulletinref06_Fold.l0 k x0 (x3 ++ (x0.extract (x4 : Int).toNat ((wrap64 (x4 + 1)) : Int).toNat)) (wrap64 (x4 + 1))) else (none)) else (none)) else (none))) else (none)) else (some x3)
def bulletinref06_Fold.f (k : Nat) (a0 : ByteArray) : Option (ByteArray) := bulletinref06_Fold.l0 k a0 (⟨#[]⟩ : ByteArray) 0
set_option maxHeartbeats 8000000 in
set_option maxRecDepth 100000 in
theorem bulletinref06_Fold.calls (k : Nat) (a0 : ByteArray) (r : ByteArray) (w : World) (h : bulletinref06_Fold.f k a0 = some r) :
  Calls Tryz.prog 49 #[.string a0] w fun e w' => e = .returned (.string r) ∧ Below w.heap.size w w' := by
 have HB := Aside0.mk (Below.refl w.heap.size w); have H : (bulletinref06_Fold.l0 k a0 (⟨#[]⟩ : ByteArray) 0) = some r := h; clear h; have H' := Aside0.mk H; clear H
 go_enter Tryz.func49, Tryz.ntmps49
 go_wp2
 go_loopg [3, 4] k (fun kq v3 v4 w' => ∃ (x3_1 : ByteArray) (x4_1 : Int), v3 = .string x3_1 ∧ v4 = .int .i64 x4_1 ∧ Aside0 (bulletinref06_Fold.l0 kq a0 x3_1 x4_1 = some r) ∧ Aside0 (kq ≤ k) ∧ Aside0 (Below w.heap.size w w'))
 case atStart => exact ⟨((⟨#[]⟩ : ByteArray)), (0), cl, cl, H', ⟨Nat.le_refl _⟩, ⟨bw⟩⟩
 case round =>
  clear H'; obtain ⟨x3_1, x4_1, rfl, rfl, HA, HK1, HB⟩ := hrel; cases gk with
  | zero => exact absurd HA.out (by simp [bulletinref06_Fold.l0])
  | succ k1 =>
   have H := HA.out; clear HA; simp only [bulletinref06_Fold.l0] at H
   by_cases c2 : x4_1 < (a0.size : Int)
   ·rw [if_pos c2] at H; have c2b0 := decide_eq_true c2; clear c2
    by_cases c3 : 0 ≤ x4_1
    ·rw [if_pos c3] at H; have c3b0 := decide_eq_true c3; clear c3
     by_cases c5 : (bt a0 x4_1) ≥ 65
     ·rw [if_pos c5] at H; have c5b0 : decide (65 ≤ (bt a0 x4_1)) = true := decide_eq_true c5; clear c5
      by_cases c7 : (bt a0 x4_1) ≤ 90
      ·rw [if_pos c7] at H; have c7b0 := decide_eq_true c7; clear c7; obtain ⟨y524, hy524⟩ : ∃ y_ : List Int, y_ = (([((bt a0 x4_1) + 32) % 256] : List Int)) := ⟨_, rfl⟩
       replace H : (if x3_1.size + (strOfNums y524).size ≤ 9223372036854775807 then (bulletinref06_Fold.l0 k1 a0 (x3_1 ++ (strOfNums y524)) (wrap64 (x4_1 + 1))) else (none)) = some r := by first | (rw [hy524]; with_reducible exact H) | (have H2_ := (Option.bind_some _ _).symm.trans H; rw [hy524]; with_reducible exact H2_) | (have H2_ := (Option.bind_some _ _).symm.trans H; with_reducible exact H2_) | with_reducible exact H | (rw [hy524]; exact H) | exact H
       have Ny524 := Aside0.mk hy524; clear hy524
       by_cases c9 : x3_1.size + (strOfNums y524).size ≤ 9223372036854775807
       ·rw [if_pos c9] at H; have c9b0 := eq_true c9; have c9b1 := decide_eq_true c9
        try have c9b2 : (9223372036854775807 < x3_1.size + (strOfNums y524).size) = False := eq_false (Nat.not_lt.2 c9)
        have H' := Aside0.mk H; clear H; have p4 : 0 ≤ (x4_1 : Int) := od; have q4 : x4_1 < (a0.size : Int) := od; have hx4 := bt_at a0 x4_1; replace p4 := eq_true p4; replace q4 := eq_true q4; have p6 : 0 ≤ (x4_1 : Int) := od; have q6 : x4_1 < (a0.size : Int) := od; have hx6 := bt_at a0 x4_1; replace p6 := eq_true p6; replace q6 := eq_true q6; have p8 : 0 ≤ (x4_1 : Int) := od; have q8 : x4_1 < (a0.size : Int) := od; have hx8 := bt_at a0 x4_1; replace p8 := eq_true p8; replace q8 := eq_true q8
        go_wp2_with (first | ((with_reducible refine gate_dst (N := 26) rfl ?_); refine Kd.R_lit (Kd.int .u8) _ 5 ?hg (N := 26) ?hd (xs := ([((bt a0 x4_1) + 32) % 256] : List Int)) (inner := [.int .u8 (((bt a0 x4_1) + 32) % 256)]) (ok := fun _ => True) (okp := fun _ => True) ?hr ?hp (fun _ hk => hk) trivial (Below.refl _ _) (Nat.le_refl _) (by simp) ?_; (case hd => rfl); (case hg => rfl); (case hr => first | (go_simp; done) | (go_simp; rfl)); (case hp => exact (Reps.one (show Kd.M (Kd.int .u8) _ _ _ (((bt a0 x4_1) + 32) % 256) [.int .u8 (((bt a0 x4_1) + 32) % 256)] from rfl) (Reps.none _ _))); intro v525 w10 ho11 hb hg_ hnew_; clear hg_ hnew_; (first | rw [← Ny524.out] at ho11 | (simp only [Int.reduceToNat] at ho11; rw [← Ny524.out] at ho11)); have n0_ := Aside0.mk (Kd.R_lower ho11 (below_size bw)); have n1_ := Aside0.mk (below_step bw hb); clear HB; have HO526 := n0_; have HB := n1_; clear n0_ n1_; clear hb ho11; have hcv12 := own_string (P := Tryz.prog) Tryz.underlying125 Tryz.underlying5 Tryz.underlying9 (Kd.own_of_R HO526.out)))
        go_roundg k1
        case measure => have := HK1.out; omega
        case rel => exact ⟨(x3_1 ++ (strOfNums y524)), (wrap64 (x4_1 + 1)), cl, cl, H', ⟨by have := HK1.out; omega⟩, ⟨bw⟩⟩
       rw [if_neg c9] at H; exact absurd H (by simp)
      rw [if_neg c7] at H; have c7b0 := decide_eq_false c7; clear c7; have c13b0 := eq_true (od : 0 ≤ x4_1)
      by_cases c14 : x4_1 ≤ (wrap64 (x4_1 + 1))
      ·rw [if_pos c14] at H; have c14b0 := eq_true c14; have c14b1 := decide_eq_true c14
       by_cases c15 : (wrap64 (x4_1 + 1)) ≤ (a0.size : Int)
       ·rw [if_pos c15] at H; have c15b0 := eq_true c15; have c15b1 := decide_eq_true c15
        by_cases c16 : x3_1.size + (a0.extract (x4_1 : Int).toNat ((wrap64 (x4_1 + 1)) : Int).toNat).size ≤ 9223372036854775807
        ·rw [if_pos c16] at H; have c16b0 := eq_true c16; have c16b1 := decide_eq_true c16
         try have c16b2 : (9223372036854775807 < x3_1.size + (a0.extract (x4_1 : Int).toNat ((wrap64 (x4_1 + 1)) : Int).toNat).size) = False := eq_false (Nat.not_lt.2 c16)
         try (have c16b3 := c16; simp only [ByteArray.size_append, size_lit, ByteArray.size_extract, List.size_toArray, List.length_cons, List.length_nil, Nat.zero_add, Nat.reduceAdd] at c16b3; have c16b4 := eq_false (Nat.not_lt.2 c16b3))
         have H' := Aside0.mk H; clear H; have p4 : 0 ≤ (x4_1 : Int) := od; have q4 : x4_1 < (a0.size : Int) := od; have hx4 := bt_at a0 x4_1; replace p4 := eq_true p4; replace q4 := eq_true q4; have p6 : 0 ≤ (x4_1 : Int) := od; have q6 : x4_1 < (a0.size : Int) := od; have hx6 := bt_at a0 x4_1; replace p6 := eq_true p6; replace q6 := eq_true q6
         go_wp2
         go_roundg k1
         case measure => have := HK1.out; omega
         case rel => exact ⟨(x3_1 ++ (a0.extract (x4_1 : Int).toNat ((wrap64 (x4_1 + 1)) : Int).toNat)), (wrap64 (x4_1 + 1)), cl, cl, H', ⟨by have := HK1.out; omega⟩, ⟨bw⟩⟩
        rw [if_neg c16] at H; exact absurd H (by simp)
       rw [if_neg c15] at H; exact absurd H (by simp)
      rw [if_neg c14] at H; exact absurd H (by simp)
     rw [if_neg c5] at H; have c5b0 : decide (65 ≤ (bt a0 x4_1)) = false := decide_eq_false c5; clear c5; have c17b0 := eq_true (od : 0 ≤ x4_1)
     by_cases c18 : x4_1 ≤ (wrap64 (x4_1 + 1))
     ·rw [if_pos c18] at H; have c18b0 := eq_true c18; have c18b1 := decide_eq_true c18
      by_cases c19 : (wrap64 (x4_1 + 1)) ≤ (a0.size : Int)
      ·rw [if_pos c19] at H; have c19b0 := eq_true c19; have c19b1 := decide_eq_true c19
       by_cases c20 : x3_1.size + (a0.extract (x4_1 : Int).toNat ((wrap64 (x4_1 + 1)) : Int).toNat).size ≤ 9223372036854775807
       ·rw [if_pos c20] at H; have c20b0 := eq_true c20; have c20b1 := decide_eq_true c20
        try have c20b2 : (9223372036854775807 < x3_1.size + (a0.extract (x4_1 : Int).toNat ((wrap64 (x4_1 + 1)) : Int).toNat).size) = False := eq_false (Nat.not_lt.2 c20)
        try (have c20b3 := c20; simp only [ByteArray.size_append, size_lit, ByteArray.size_extract, List.size_toArray, List.length_cons, List.length_nil, Nat.zero_add, Nat.reduceAdd] at c20b3; have c20b4 := eq_false (Nat.not_lt.2 c20b3))
        have H' := Aside0.mk H; clear H; have p4 : 0 ≤ (x4_1 : Int) := od; have q4 : x4_1 < (a0.size : Int) := od; have hx4 := bt_at a0 x4_1; replace p4 := eq_true p4; replace q4 := eq_true q4
        go_wp2
        go_roundg k1
        case measure => have := HK1.out; omega
        case rel => exact ⟨(x3_1 ++ (a0.extract (x4_1 : Int).toNat ((wrap64 (x4_1 + 1)) : Int).toNat)), (wrap64 (x4_1 + 1)), cl, cl, H', ⟨by have := HK1.out; omega⟩, ⟨bw⟩⟩
       rw [if_neg c20] at H; exact absurd H (by simp)
      rw [if_neg c19] at H; exact absurd H (by simp)
     rw [if_neg c18] at H; exact absurd H (by simp)
    rw [if_neg c3] at H; exact absurd H (by simp)
   rw [if_neg c2] at H; have c2b0 := decide_eq_false c2; clear c2; obtain rfl := Option.some.inj H
   go_wp2
   go_ret
   exact ⟨ew, bw⟩

def bulletinref15_Same.f (k : Nat) (a0 : ByteArray) (a1 : ByteArray) : Option (Bool) := (bulletinref06_Fold.f k a0).bind fun t527 => ((bulletinref06_Fold.f k a1).bind fun t528 => (some (t527.toList == t528.toList)))
set_option maxHeartbeats 8000000 in
set_option maxRecDepth 100000 in
theorem bulletinref15_Same.calls (k : Nat) (a0 : ByteArray) (a1 : ByteArray) (r : Bool) (w : World) (h : bulletinref15_Same.f k a0 a1 = some r) :
  Calls Tryz.prog 50 #[.string a0, .string a1] w fun e w' => e = .returned (.bool r) ∧ Below w.heap.size w w' := by
 have HB := Aside0.mk (Below.refl w.heap.size w); have H : ((bulletinref06_Fold.f k a0).bind fun t527 => ((bulletinref06_Fold.f k a1).bind fun t528 => (some (t527.toList == t528.toList)))) = some r := h; clear h; replace H := Option.bind_eq_some_iff.mp H; obtain ⟨t527, A30, H⟩ := H; have A3 := Aside0.mk A30; clear A30; replace H := Option.bind_eq_some_iff.mp H; obtain ⟨t528, A40, H⟩ := H; have A4 := Aside0.mk A40; clear A40; obtain rfl := Option.some.inj H
 go_enter Tryz.func50, Tryz.ntmps50
 go_wp2_with (first | ((with_reducible refine gate_callee (f := 49) rfl ?_); refine goesL_ (some 6) rfl rfl Tryz.func49 (by kernel_rfl) rfl #[.string a0] rfl am ?_; (with_reducible refine (bulletinref06_Fold.calls k a0 t527 _ A3.out).mono ?_); rintro e w5 ⟨rfl, hb⟩; refine ⟨_, rfl, ?_⟩; have n0_ := Aside0.mk (below_step bw hb); clear HB; have HB := n0_; clear n0_; (try clear hb); (try clear hb2); (try clear hk); (try clear hi)) | ((with_reducible refine gate_callee (f := 49) rfl ?_); refine goesL_ (some 8) rfl rfl Tryz.func49 (by kernel_rfl) rfl #[.string a1] rfl am ?_; (with_reducible refine (bulletinref06_Fold.calls k a1 t528 _ A4.out).mono ?_); rintro e w6 ⟨rfl, hb⟩; refine ⟨_, rfl, ?_⟩; have n0_ := Aside0.mk (below_step bw hb); clear HB; have HB := n0_; clear n0_; (try clear hb); (try clear hb2); (try clear hk); (try clear hi)))
 go_ret
 exact ⟨ew, bw⟩

def bulletinref15_All.l0 : Nat → List (S74) → ByteArray → List ByteArray → Int → Option (List ByteArray)
 | 0, _, _, _, _ => none
 | k + 1, x0, x1, x5, x6 => if x6 < (x0.length : Int) then (if 0 ≤ x6 then ((bulletinref15_Same.f k ((rd_T74 x0 x6).f0) x1).bind fun t530 => (if t530 = true then (if x5.length < 8796093022208 then (bulletinref15_All.l0 k x0 x1 (x5 ++ [(rd_T74 x0 x6).f1]) (wrap64 (x6 + 1))) else (none)) else (bulletinref15_All.l0 k x0 x1 x5 (wrap64 (x6 + 1))))) else (none)) else (some x5)
def bulletinref15_All.f (k : Nat) (l0 : List (S74)) (a1 : ByteArray) : Option (List ByteArray) := bulletinref15_All.l0 k l0 a1 ([] : List ByteArray) 0
set_option maxHeartbeats 8000000 in
set_option maxRecDepth 100000 in
theorem bulletinref15_All.calls (k : Nat) (A0 : Option Addr) (c0 : Nat) (l0 : List (S74)) (a1 : ByteArray) (r : List ByteArray) (w : World) (hr0 : Kd.C k74 w A0 l0.length l0) (hc0 : l0.length ≤ c0) (h : bulletinref15_All.f k l0 a1 = some r) :
  Calls Tryz.prog 22 #[.slice A0 l0.length c0, .string a1] w fun e w' => ∃ v0_ : Value, e = .returned (v0_) ∧ Kd.R Kd.string 9 w' w.heap.size (fun _ => True) v0_ r ∧ Below w.heap.size w w' := by
 have HR0 := Aside0.mk hr0; have HC0 := Aside0.mk hc0; clear hr0 hc0; have HB := Aside0.mk (Below.refl w.heap.size w); have H : (bulletinref15_All.l0 k l0 a1 ([] : List ByteArray) 0) = some r := h; clear h; have H' := Aside0.mk H; clear H
 go_enter Tryz.func22, Tryz.ntmps22
 go_wp2
 go_loopg [5, 6] k (fun kq v5 v6 w' => ∃ (x5_1 : List ByteArray) (x6_1 : Int), v6 = .int .i64 x6_1 ∧ Aside0 (bulletinref15_All.l0 kq l0 a1 x5_1 x6_1 = some r) ∧ Aside0 (kq ≤ k) ∧ Aside0 (Kd.R Kd.string 9 w' w.heap.size (fun _ => True) v5 x5_1) ∧ Aside0 (Below w.heap.size w w'))
 case atStart => exact ⟨(([] : List ByteArray)), (0), cl, H', ⟨Nat.le_refl _⟩, ⟨by first | exact Kd.R_nil _ _ _ _ _ | exact Kd.N_nil _ _ _ _ _ | exact Kd.V_nil _ _ _ _ _ | exact Kd.Q_nil _ _ _ _ _ | exact Kd.S_nil _ _ _ _ _⟩, ⟨bw⟩⟩
 case round =>
  clear H'
  try clear c2
  try clear p2
  obtain ⟨x5_1, x6_1, rfl, HA, HK1, HO_5, HB⟩ := hrel; cases gk with
  | zero => exact absurd HA.out (by simp [bulletinref15_All.l0])
  | succ k1 =>
   have H := HA.out; clear HA; simp only [bulletinref15_All.l0] at H
   by_cases c3 : x6_1 < (l0.length : Int)
   ·rw [if_pos c3] at H; have c3b0 := decide_eq_true c3; clear c3
    by_cases c4 : 0 ≤ x6_1
    ·rw [if_pos c4] at H; have c4b0 := decide_eq_true c4; clear c4; replace H := Option.bind_eq_some_iff.mp H; obtain ⟨t530, A50, H⟩ := H; have A5 := Aside0.mk A50; clear A50
     by_cases c6 : t530 = true
     ·subst c6; rw [if_pos rfl] at H
      by_cases c7 : x5_1.length < 8796093022208
      ·rw [if_pos c7] at H; have LMc7 := Aside0.mk c7; clear c7; obtain ⟨y532, hy532⟩ : ∃ y_ : List ByteArray, y_ = (x5_1 ++ [(rd_T74 l0 x6_1).f1]) := ⟨_, rfl⟩
       replace H : (bulletinref15_All.l0 k1 l0 a1 y532 (wrap64 (x6_1 + 1))) = some r := by first | (rw [hy532]; with_reducible exact H) | (have H2_ := (Option.bind_some _ _).symm.trans H; rw [hy532]; with_reducible exact H2_) | (have H2_ := (Option.bind_some _ _).symm.trans H; with_reducible exact H2_) | with_reducible exact H | (rw [hy532]; exact H) | exact H
       have Ny532 := Aside0.mk hy532; clear hy532; have H' := Aside0.mk H; clear H; have p529 : 0 ≤ (x6_1 : Int) := od; have q529 : x6_1 < (l0.length : Int) := od; obtain ⟨ad529, e529, hx529_0, hx529_1⟩ := at_T74 HR0.out x6_1 p529 q529; cases e529; replace hx529_0 := (HB.out.cell (World.block_lt_of_cell? w _ hx529_0)).trans hx529_0; replace hx529_1 := (HB.out.cell (World.block_lt_of_cell? w _ hx529_1)).trans hx529_1; replace p529 := eq_true p529; replace q529 := eq_true q529
       go_wp2_with (first | ((with_reducible refine gate_callee (f := 50) rfl ?_); refine goesL_ (some 19) rfl rfl Tryz.func50 (by kernel_rfl) rfl #[.string ((rd_T74 l0 x6_1).f0), .string a1] rfl am ?_; (with_reducible refine (bulletinref15_Same.calls k1 ((rd_T74 l0 x6_1).f0) a1 true _ A5.out).mono ?_); rintro e w8 ⟨rfl, hb⟩; refine ⟨_, rfl, ?_⟩; have n0_ := Aside0.mk (Kd.R_below (ra HO_5.out) hb); have n1_ := Aside0.mk (below_step bw hb); clear HO_5; clear HB; have HO_5 := n0_; have HB := n1_; clear n0_ n1_; (try clear hb); (try clear hb2); (try clear hk); (try clear hi); have p531 : 0 ≤ (x6_1 : Int) := od; have q531 : x6_1 < (l0.length : Int) := od; obtain ⟨ad531, e531, hx531_0, hx531_1⟩ := at_T74 HR0.out x6_1 p531 q531; obtain rfl : ad529 = ad531 := (by injection e531); replace hx531_0 := (HB.out.cell (World.block_lt_of_cell? w _ hx531_0)).trans hx531_0; replace hx531_1 := (HB.out.cell (World.block_lt_of_cell? w _ hx531_1)).trans hx531_1; replace p531 := eq_true p531; replace q531 := eq_true q531) | ((with_reducible refine gate_builtin (b := .append) (xs := #[.tmp 20, .tmp 26]) rfl ?_); at_builtin; refine Kd.R_append Kd.string (w0 := w) w.heap.size rfl (.tmp 20) (.tmp 26) 53 9 (.string ⟨#[]⟩) 16 rfl Tryz.underlying53 info9 rfl (by decide) (by omega) u5 x5_1 ((rd_T74 l0 x6_1).f1) [.string ((rd_T74 l0 x6_1).f1)] (fun _ => True) (fun _ => False) rfl rfl ?aP (fun _ hk => hk.elim) ?aF ?aO ?aB ?aS ?aL ?_; (case aP => exact rfl); (case aB => exact bw); (case aF => exact (fun _ _ => trivial)); (case aO => exact (ra HO_5.out)); (case aS => exact (below_size bw)); (case aL => have := LMc7.out; omega); intro v533 w9 ho hb hg hat; rw [← Ny532.out] at ho; have n0_ := Aside0.mk (hb); have n1_ := Aside0.mk (ho); clear HB; clear HO_5; have HB := n0_; have HO534 := n1_; clear n0_ n1_; clear ho hb hg hat))
       go_roundg k1
       case measure => have := HK1.out; omega
       case rel => exact ⟨(y532), (wrap64 (x6_1 + 1)), cl, H', ⟨by have := HK1.out; omega⟩, ⟨ra HO534.out⟩, ⟨bw⟩⟩
      rw [if_neg c7] at H; exact absurd H (by simp)
     replace c6 := Bool.eq_false_iff.mpr c6; subst c6; rw [if_neg nft] at H; have H' := Aside0.mk H; clear H; have p529 : 0 ≤ (x6_1 : Int) := od; have q529 : x6_1 < (l0.length : Int) := od; obtain ⟨ad529, e529, hx529_0, hx529_1⟩ := at_T74 HR0.out x6_1 p529 q529; cases e529; replace hx529_0 := (HB.out.cell (World.block_lt_of_cell? w _ hx529_0)).trans hx529_0; replace hx529_1 := (HB.out.cell (World.block_lt_of_cell? w _ hx529_1)).trans hx529_1; replace p529 := eq_true p529; replace q529 := eq_true q529
     go_wp2_with (first | ((with_reducible refine gate_callee (f := 50) rfl ?_); refine goesL_ (some 19) rfl rfl Tryz.func50 (by kernel_rfl) rfl #[.string ((rd_T74 l0 x6_1).f0), .string a1] rfl am ?_; (with_reducible refine (bulletinref15_Same.calls k1 ((rd_T74 l0 x6_1).f0) a1 false _ A5.out).mono ?_); rintro e w10 ⟨rfl, hb⟩; refine ⟨_, rfl, ?_⟩; have n0_ := Aside0.mk (Kd.R_below (ra HO_5.out) hb); have n1_ := Aside0.mk (below_step bw hb); clear HO_5; clear HB; have HO_5 := n0_; have HB := n1_; clear n0_ n1_; (try clear hb); (try clear hb2); (try clear hk); (try clear hi)))
     go_roundg k1
     case measure => have := HK1.out; omega
     case rel => exact ⟨(x5_1), (wrap64 (x6_1 + 1)), cl, H', ⟨by have := HK1.out; omega⟩, ⟨ra HO_5.out⟩, ⟨bw⟩⟩
    rw [if_neg c4] at H; exact absurd H (by simp)
   rw [if_neg c3] at H; have c3b0 := decide_eq_false c3; clear c3; obtain rfl := Option.some.inj H
   go_wp2
   go_ret
   exact ⟨_, ew, ra HO_5.out, bw⟩

def bulletinref15_Get.f (k : Nat) (l0 : List (S74)) (a1 : ByteArray) : Option (ByteArray × Bool) := (bulletinref15_All.f k l0 a1).bind fun t640 => (if (t640.length : Int) = 0 then (some ((⟨#[]⟩ : ByteArray), false)) else (if 0 < (t640.length : Int) then (some (rdOf ByteArray.empty t640 0, true)) else (none)))
set_option maxHeartbeats 8000000 in
set_option maxRecDepth 100000 in
theorem bulletinref15_Get.calls (k : Nat) (A0 : Option Addr) (c0 : Nat) (l0 : List (S74)) (a1 : ByteArray) (r1 : ByteArray) (r2 : Bool) (w : World) (hr0 : Kd.C k74 w A0 l0.length l0) (hc0 : l0.length ≤ c0) (h : bulletinref15_Get.f k l0 a1 = some (r1, r2)) :
  Calls Tryz.prog 46 #[.slice A0 l0.length c0, .string a1] w fun e w' => e = .returned (.tuple #[.string r1, .bool r2]) ∧ Below w.heap.size w w' := by
 have HR0 := Aside0.mk hr0; have HC0 := Aside0.mk hc0; clear hr0 hc0; have HB := Aside0.mk (Below.refl w.heap.size w); have H : ((bulletinref15_All.f k l0 a1).bind fun t640 => (if (t640.length : Int) = 0 then (some ((⟨#[]⟩ : ByteArray), false)) else (if 0 < (t640.length : Int) then (some (rdOf ByteArray.empty t640 0, true)) else (none)))) = some (r1, r2) := h; clear h; replace H := Option.bind_eq_some_iff.mp H; obtain ⟨t640, A30, H⟩ := H; have A3 := Aside0.mk A30; clear A30
 by_cases c4 : (t640.length : Int) = 0
 ·rw [if_pos c4] at H; have c4b0 := beq_iff_eq.mpr c4; have c4b1 := bne_eq_false_iff_eq.mpr c4; clear c4; simp only [Option.some.injEq, Prod.mk.injEq] at H; obtain ⟨rfl, rfl⟩ := H
  go_enter Tryz.func46, Tryz.ntmps46
  go_wp2_with (first | ((with_reducible refine gate_callee (f := 22) rfl ?_); refine goesL_ (some 9) rfl rfl Tryz.func22 (by kernel_rfl) rfl #[.slice A0 l0.length c0, .string a1] rfl am ?_; (with_reducible refine (bulletinref15_All.calls k _ _ l0 a1 t640 _ ?side1 ?side2 A3.out).mono ?_); (case side1 => repeat (first | exact HR0.out | (with_reducible refine Kd.C_alloc ?_ _) | (with_reducible refine Kd.C_drewN ?_ _) | (with_reducible refine Kd.C_drew ?_))); (case side2 => exact HC0.out); rintro e w5 ⟨v641, rfl, ho0, hb⟩; refine ⟨_, rfl, ?_⟩; have n0_ := Aside0.mk (Kd.R_lower ho0 (below_size bw)); have n1_ := Aside0.mk (below_step bw hb); clear HB; have HO642 := n0_; have HB := n1_; clear n0_ n1_; (try clear hb); (try clear hb2); (try clear hk); (try clear hi); (try clear ho0); obtain ⟨Ao6, co6, eo6⟩ := Kd.R_slice HO642.out; subst eo6))
  go_ret2
  exact ⟨ew, bw⟩
 rw [if_neg c4] at H; have c4b0 := beq_eq_false_iff_ne.mpr c4; have c4b1 := bne_iff_ne.mpr c4; have c4b2 : ¬ (t640 = []) := fun h_ => c4 (by rw [h_]; rfl)
 by_cases c7 : 0 < (t640.length : Int)
 ·rw [if_pos c7] at H; have c7b0 := decide_eq_true c7; have c7b1 : decide (0 < t640.length) = true := decide_eq_true (by omega); clear c7; simp only [Option.some.injEq, Prod.mk.injEq] at H; obtain ⟨rfl, rfl⟩ := H
  go_enter Tryz.func46, Tryz.ntmps46
  go_wp2_with (first | ((with_reducible refine gate_callee (f := 22) rfl ?_); refine goesL_ (some 9) rfl rfl Tryz.func22 (by kernel_rfl) rfl #[.slice A0 l0.length c0, .string a1] rfl am ?_; (with_reducible refine (bulletinref15_All.calls k _ _ l0 a1 t640 _ ?side1 ?side2 A3.out).mono ?_); (case side1 => repeat (first | exact HR0.out | (with_reducible refine Kd.C_alloc ?_ _) | (with_reducible refine Kd.C_drewN ?_ _) | (with_reducible refine Kd.C_drew ?_))); (case side2 => exact HC0.out); rintro e w8 ⟨v641, rfl, ho0, hb⟩; refine ⟨_, rfl, ?_⟩; have n0_ := Aside0.mk (Kd.R_lower ho0 (below_size bw)); have n1_ := Aside0.mk (below_step bw hb); clear HB; have HO642 := n0_; have HB := n1_; clear n0_ n1_; (try clear hb); (try clear hb2); (try clear hk); (try clear hi); (try clear ho0); obtain ⟨Ao9, co9, eo9⟩ := Kd.R_slice HO642.out; subst eo9; have p643 : 0 ≤ (0 : Int) := (by omega); have q643 : 0 < (t640.length : Int) := od; obtain ⟨ad643, e643, hx643_0⟩ := Kd.at_string (Kd.R_reads' HO642.out).2.2 0 p643 q643; cases e643; have qi643 : (0 < t640.length) = True := eq_true (by omega); (try rw [show ((0 : Int)).toNat = 0 from rfl] at hx643_0); (try rw [Addr.add_zero'] at hx643_0); replace p643 := eq_true p643; replace q643 := eq_true q643))
  go_ret2
  exact ⟨ew, bw⟩
 rw [if_neg c7] at H; exact absurd H (by simp)

def bulletinref16_Get.f (k : Nat) (l0_0 : List (S74)) (a0_1 : ByteArray) (a1 : ByteArray) : Option (ByteArray) := (bulletinref15_Get.f k l0_0 a1).bind fun bt645 => (some bt645.1)
set_option maxHeartbeats 8000000 in
set_option maxRecDepth 100000 in
theorem bulletinref16_Get.calls (k : Nat) (A0_0 : Option Addr) (c0_0 : Nat) (l0_0 : List (S74)) (a0_1 : ByteArray) (a1 : ByteArray) (r : ByteArray) (w : World) (hr0_0 : Kd.C k74 w A0_0 l0_0.length l0_0) (hc0_0 : l0_0.length ≤ c0_0) (h : bulletinref16_Get.f k l0_0 a0_1 a1 = some r) :
  Calls Tryz.prog 18 #[.agg #[.slice A0_0 l0_0.length c0_0, .string a0_1], .string a1] w fun e w' => e = .returned (.string r) ∧ Below w.heap.size w w' := by
 have hu24 := Tryz.underlying24; have HR0_0 := Aside0.mk hr0_0; have HC0_0 := Aside0.mk hc0_0; clear hr0_0 hc0_0; have HB := Aside0.mk (Below.refl w.heap.size w); have H : ((bulletinref15_Get.f k l0_0 a1).bind fun bt645 => (some bt645.1)) = some r := h; clear h; replace H := Option.bind_eq_some_iff.mp H; obtain ⟨⟨t645, t646⟩, A30, H⟩ := H; replace H : (some t645) = some r := H; have A3 := Aside0.mk A30; clear A30; obtain rfl := Option.some.inj H
 go_enter Tryz.func18, Tryz.ntmps18
 go_wp2_with (first | ((with_reducible refine gate_dst (N := 2) rfl ?_); refine box_event ?hg (N := 2) ?hd (cs := #[.slice A0_0 l0_0.length c0_0, .string a0_1]) (t := 24) ?hr ?_; (case hd => rfl); (case hg => rfl); (case hr => first | (go_simp; done) | (go_simp; rfl)); intro gb644 hg w4 hbox hb; have n0_ := Aside0.mk (below_step bw hb); have n1_ := Aside0.mk (hbox); have n2_ := Aside0.mk ((by rw [hg]; exact (below_size bw) : w.heap.size ≤ gb644)); have n3_ := Aside0.mk ((by rw [hg]; exact (below_size bw) : w.heap.size ≤ gb644)); clear HB; have HB := n0_; have BK644 := n1_; have GW644 := n2_; have GE644 := n3_; clear n0_ n1_ n2_ n3_; clear hb hbox hg; have hcz5_0 : w4.cell? ⟨gb644, 0, none⟩ = some (.slice A0_0 l0_0.length c0_0) := (blk_cell BK644.out 0).trans rfl; have hcz5_1 : w4.cell? ⟨gb644, 1, none⟩ = some (.string a0_1) := (blk_cell BK644.out 1).trans rfl; have hfz5_0 := blk_frozen BK644.out 0; have hfz5_1 := blk_frozen BK644.out 1) | ((with_reducible refine gate_callee (f := 46) rfl ?_); refine goesL_ (some 11) rfl rfl Tryz.func46 (by kernel_rfl) rfl #[.slice A0_0 l0_0.length c0_0, .string a1] rfl am ?_; (with_reducible refine (bulletinref15_Get.calls k _ _ l0_0 a1 t645 t646 _ ?side1 ?side2 A3.out).mono ?_); (case side1 => repeat (first | exact (Kd.C_below HR0_0.out HB.out) | (with_reducible refine Kd.C_alloc ?_ _) | (with_reducible refine Kd.C_drewN ?_ _) | (with_reducible refine Kd.C_drew ?_))); (case side2 => exact HC0_0.out); rintro e w6 ⟨rfl, hb⟩; refine ⟨_, rfl, ?_⟩; have n0_ := Aside0.mk (blk_below (g := gb644) (o := .cells #[.slice A0_0 l0_0.length c0_0, .string a0_1] 24 (0, 0)) bk hb); have n1_ := Aside0.mk (below_step bwS hb); clear BK644; clear HB; have BK644 := n0_; have HB := n1_; clear n0_ n1_; (try clear hb); (try clear hb2); (try clear hk); (try clear hi)))
 go_ret
 exact ⟨ew, bwS⟩

def bulletinref18_Bare.l0 : Nat → ByteArray → ByteArray → Int → Option (ByteArray)
 | 0, _, _, _ => none
 | k + 1, x0, x3, x4 => if x4 < (x0.size : Int) then (if 0 ≤ x4 then (if (bt x0 x4) = 32 then (bulletinref18_Bare.l0 k x0 x3 (wrap64 (x4 + 1))) else (if (bt x0 x4) = 9 then (bulletinref18_Bare.l0 k x0 x3 (wrap64 (x4 + 1))) else (if (bt x0 x4) = 13 then (bulletinref18_Bare.l0 k x0 x3 (wrap64 (x4 + 1))) else (if (bt x0 x4) = 10 then (bulletinref18_Bare.l0 k x0 x3 (wrap64 (x4 + 1))) else (if x4 ≤ (wrap64 (x4 + 1)) then (if (wrap64 (x4 + 1)) ≤ (x0.size : Int) then (if x3.size + (x0.extract (x4 : Int).toNat ((wrap64 (x4 + 1)) : Int).toNat).size ≤ 9223372036854775807 then (bulletinref18_Bare.l0 k x0 (x3 ++ (x0.extract (x4 : Int).toNat ((wrap64 (x4 + 1)) : Int).toNat)) (wrap64 (x4 + 1))) else (none)) else (none)) else (none)))))) else (none)) else (some x3)
def bulletinref18_Bare.f (k : Nat) (a0 : ByteArray) : Option (ByteArray) := bulletinref18_Bare.l0 k a0 (⟨#[]⟩ : ByteArray) 0
set_option maxHeartbeats 8000000 in
set_option maxRecDepth 100000 in
theorem bulletinref18_Bare.calls (k : Nat) (a0 : ByteArray) (r : ByteArray) (w : World) (h : bulletinref18_Bare.f k a0 = some r) :
  Calls Tryz.prog 204 #[.string a0] w fun e w' => e = .returned (.string r) ∧ Drawn0 w w' := by
 have H : (bulletinref18_Bare.l0 k a0 (⟨#[]⟩ : ByteArray) 0) = some r := h; clear h; have H' := Aside0.mk H; clear H
 go_enter Tryz.func204, Tryz.ntmps204
 go_wp2
 go_loopg [3, 4] k (fun kq v3 v4 w' => ∃ (x3_1 : ByteArray) (x4_1 : Int), v3 = .string x3_1 ∧ v4 = .int .i64 x4_1 ∧ Aside0 (bulletinref18_Bare.l0 kq a0 x3_1 x4_1 = some r) ∧ Aside0 (kq ≤ k) ∧ Drawn0 w w')
 case atStart => exact ⟨((⟨#[]⟩ : ByteArray)), (0), cl, cl, H', ⟨Nat.le_refl _⟩, d0⟩
 case round =>
  clear H'; obtain ⟨x3_1, x4_1, rfl, rfl, HA, HK1, ⟨m1, rfl⟩⟩ := hrel; cases gk with
  | zero => exact absurd HA.out (by simp [bulletinref18_Bare.l0])
  | succ k1 =>
   have H := HA.out; clear HA; simp only [bulletinref18_Bare.l0] at H
   by_cases c2 : x4_1 < (a0.size : Int)
   ·rw [if_pos c2] at H; have c2b0 := decide_eq_true c2; clear c2
    by_cases c3 : 0 ≤ x4_1
    ·rw [if_pos c3] at H; have c3b0 := decide_eq_true c3; clear c3
     by_cases c5 : (bt a0 x4_1) = 32
     ·rw [if_pos c5] at H; have c5b0 := beq_iff_eq.mpr c5; have c5b1 := bne_eq_false_iff_eq.mpr c5; clear c5; have H' := Aside0.mk H; clear H; have p4 : 0 ≤ (x4_1 : Int) := od; have q4 : x4_1 < (a0.size : Int) := od; have hx4 := bt_at a0 x4_1; replace p4 := eq_true p4; replace q4 := eq_true q4
      go_wp2
      go_roundg k1
      case measure => have := HK1.out; omega
      case rel => exact ⟨(x3_1), (wrap64 (x4_1 + 1)), cl, cl, H', ⟨by have := HK1.out; omega⟩, d0⟩
     rw [if_neg c5] at H; have c5b0 := beq_eq_false_iff_ne.mpr c5; have c5b1 := bne_iff_ne.mpr c5
     by_cases c7 : (bt a0 x4_1) = 9
     ·rw [if_pos c7] at H; have c7b0 := beq_iff_eq.mpr c7; have c7b1 := bne_eq_false_iff_eq.mpr c7; clear c7; have H' := Aside0.mk H; clear H; have p4 : 0 ≤ (x4_1 : Int) := od; have q4 : x4_1 < (a0.size : Int) := od; have hx4 := bt_at a0 x4_1; replace p4 := eq_true p4; replace q4 := eq_true q4; have p6 : 0 ≤ (x4_1 : Int) := od; have q6 : x4_1 < (a0.size : Int) := od; have hx6 := bt_at a0 x4_1; replace p6 := eq_true p6; replace q6 := eq_true q6
      go_wp2
      go_roundg k1
      case measure => have := HK1.out; omega
      case rel => exact ⟨(x3_1), (wrap64 (x4_1 + 1)), cl, cl, H', ⟨by have := HK1.out; omega⟩, d0⟩
     rw [if_neg c7] at H; have c7b0 := beq_eq_false_iff_ne.mpr c7; have c7b1 := bne_iff_ne.mpr c7
     by_cases c9 : (bt a0 x4_1) = 13
     ·rw [if_pos c9] at H; have c9b0 := beq_iff_eq.mpr c9; have c9b1 := bne_eq_false_iff_eq.mpr c9; clear c9; have H' := Aside0.mk H; clear H; have p4 : 0 ≤ (x4_1 : Int) := od; have q4 : x4_1 < (a0.size : Int) := od; have hx4 := bt_at a0 x4_1; replace p4 := eq_true p4; replace q4 := eq_true q4; have p6 : 0 ≤ (x4_1 : Int) := od; have q6 : x4_1 < (a0.size : Int) := od; have hx6 := bt_at a0 x4_1; replace p6 := eq_true p6; replace q6 := eq_true q6; have p8 : 0 ≤ (x4_1 : Int) := od; have q8 : x4_1 < (a0.size : Int) := od; have hx8 := bt_at a0 x4_1; replace p8 := eq_true p8; replace q8 := eq_true q8
      go_wp2
      go_roundg k1
      case measure => have := HK1.out; omega
      case rel => exact ⟨(x3_1), (wrap64 (x4_1 + 1)), cl, cl, H', ⟨by have := HK1.out; omega⟩, d0⟩
     rw [if_neg c9] at H; have c9b0 := beq_eq_false_iff_ne.mpr c9; have c9b1 := bne_iff_ne.mpr c9
     by_cases c11 : (bt a0 x4_1) = 10
     ·rw [if_pos c11] at H; have c11b0 := beq_iff_eq.mpr c11; have c11b1 := bne_eq_false_iff_eq.mpr c11; clear c11; have H' := Aside0.mk H; clear H; have p4 : 0 ≤ (x4_1 : Int) := od; have q4 : x4_1 < (a0.size : Int) := od; have hx4 := bt_at a0 x4_1; replace p4 := eq_true p4; replace q4 := eq_true q4; have p6 : 0 ≤ (x4_1 : Int) := od; have q6 : x4_1 < (a0.size : Int) := od; have hx6 := bt_at a0 x4_1; replace p6 := eq_true p6; replace q6 := eq_true q6; have p8 : 0 ≤ (x4_1 : Int) := od; have q8 : x4_1 < (a0.size : Int) := od; have hx8 := bt_at a0 x4_1; replace p8 := eq_true p8; replace q8 := eq_true q8; have p10 : 0 ≤ (x4_1 : Int) := od; have q10 : x4_1 < (a0.size : Int) := od; have hx10 := bt_at a0 x4_1; replace p10 := eq_true p10; replace q10 := eq_true q10
      go_wp2
      go_roundg k1
      case measure => have := HK1.out; omega
      case rel => exact ⟨(x3_1), (wrap64 (x4_1 + 1)), cl, cl, H', ⟨by have := HK1.out; omega⟩, d0⟩
     rw [if_neg c11] at H; have c11b0 := beq_eq_false_iff_ne.mpr c11; have c11b1 := bne_iff_ne.mpr c11; have c12b0 := eq_true (od : 0 ≤ x4_1)
     by_cases c13 : x4_1 ≤ (wrap64 (x4_1 + 1))
     ·rw [if_pos c13] at H; have c13b0 := eq_true c13; have c13b1 := decide_eq_true c13
      by_cases c14 : (wrap64 (x4_1 + 1)) ≤ (a0.size : Int)
      ·rw [if_pos c14] at H; have c14b0 := eq_true c14; have c14b1 := decide_eq_true c14
       by_cases c15 : x3_1.size + (a0.extract (x4_1 : Int).toNat ((wrap64 (x4_1 + 1)) : Int).toNat).size ≤ 9223372036854775807
       ·rw [if_pos c15] at H; have c15b0 := eq_true c15; have c15b1 := decide_eq_true c15
        try have c15b2 : (9223372036854775807 < x3_1.size + (a0.extract (x4_1 : Int).toNat ((wrap64 (x4_1 + 1)) : Int).toNat).size) = False := eq_false (Nat.not_lt.2 c15)
        try (have c15b3 := c15; simp only [ByteArray.size_append, size_lit, ByteArray.size_extract, List.size_toArray, List.length_cons, List.length_nil, Nat.zero_add, Nat.reduceAdd] at c15b3; have c15b4 := eq_false (Nat.not_lt.2 c15b3))
        have H' := Aside0.mk H; clear H; have p4 : 0 ≤ (x4_1 : Int) := od; have q4 : x4_1 < (a0.size : Int) := od; have hx4 := bt_at a0 x4_1; replace p4 := eq_true p4; replace q4 := eq_true q4; have p6 : 0 ≤ (x4_1 : Int) := od; have q6 : x4_1 < (a0.size : Int) := od; have hx6 := bt_at a0 x4_1; replace p6 := eq_true p6; replace q6 := eq_true q6; have p8 : 0 ≤ (x4_1 : Int) := od; have q8 : x4_1 < (a0.size : Int) := od; have hx8 := bt_at a0 x4_1; replace p8 := eq_true p8; replace q8 := eq_true q8; have p10 : 0 ≤ (x4_1 : Int) := od; have q10 : x4_1 < (a0.size : Int) := od; have hx10 := bt_at a0 x4_1; replace p10 := eq_true p10; replace q10 := eq_true q10
        go_wp2
        go_roundg k1
        case measure => have := HK1.out; omega
        case rel => exact ⟨(x3_1 ++ (a0.extract (x4_1 : Int).toNat ((wrap64 (x4_1 + 1)) : Int).toNat)), (wrap64 (x4_1 + 1)), cl, cl, H', ⟨by have := HK1.out; omega⟩, d0⟩
       rw [if_neg c15] at H; exact absurd H (by simp)
      rw [if_neg c14] at H; exact absurd H (by simp)
     rw [if_neg c13] at H; exact absurd H (by simp)
    rw [if_neg c3] at H; exact absurd H (by simp)
   rw [if_neg c2] at H; have c2b0 := decide_eq_false c2; clear c2; obtain rfl := Option.some.inj H
   go_wp2
   go_ret
   exact ⟨cl, d0⟩

def bulletinref18_bit.l0 : Nat → Int → Int → Option (Int)
 | 0, _, _ => none
 | k + 1, x5, x6 => if x6 < 7 then (bulletinref18_bit.l0 k (wrap64 (Int.tdiv x5 2)) (wrap64 (x6 + 1))) else (some (Int.tmod x5 2))
def bulletinref18_bit.f (k : Nat) (a0 : ByteArray) (a1 : Int) : Option (Int) := if (wrap64 (Int.tdiv a1 8)) ≥ (a0.size : Int) then (some 0) else (if 0 ≤ (wrap64 (Int.tdiv a1 8)) then (if (wrap64 (Int.tdiv a1 8)) < (a0.size : Int) then (bulletinref18_bit.l0 k (wrap64 (bt a0 (wrap64 (Int.tdiv a1 8)))) (Int.tmod a1 8)) else (none)) else (none))
theorem bulletinref18_bit.mono_l : ∀ k, (∀ y0 y1, LeO (bulletinref18_bit.l0 k y0 y1) (bulletinref18_bit.l0 (k + 1) y0 y1))
 | 0 => fun _ _ r h => by simp [bulletinref18_bit.l0] at h
 | k + 1 => by
  have ih0 := bulletinref18_bit.mono_l k
  ·intro y0 y1; unfold bulletinref18_bit.l0
   repeat' first
   | (with_reducible exact ih0 _ _)
   | (with_reducible exact LeO.refl _)
   | (with_reducible exact LeO.none _)
   | (with_reducible refine LeO.ite ?_ ?_)
   | (with_reducible refine LeO.bind ?_ (fun _ => ?_))
   | exact ih0 _ _
   | exact LeO.none _
   | refine LeO.ite ?_ ?_
   | refine LeO.bind ?_ (fun _ => ?_)
set_option maxHeartbeats 8000000 in
set_option maxRecDepth 100000 in
theorem bulletinref18_bit.calls (k : Nat) (a0 : ByteArray) (a1 : Int) (r : Int) (w : World) (h : bulletinref18_bit.f k a0 a1 = some r) :
  Calls Tryz.prog 221 #[.string a0, .int .i64 a1] w fun e w' => e = .returned (.int .i64 r) ∧ Drawn0 w w' := by
 have H : (if (wrap64 (Int.tdiv a1 8)) ≥ (a0.size : Int) then (some 0) else (if 0 ≤ (wrap64 (Int.tdiv a1 8)) then (if (wrap64 (Int.tdiv a1 8)) < (a0.size : Int) then (bulletinref18_bit.l0 k (wrap64 (bt a0 (wrap64 (Int.tdiv a1 8)))) (Int.tmod a1 8)) else (none)) else (none))) = some r := h; clear h
 by_cases c3 : (wrap64 (Int.tdiv a1 8)) ≥ (a0.size : Int)
 ·rw [if_pos c3] at H; have c3b0 : decide ((a0.size : Int) ≤ (wrap64 (Int.tdiv a1 8))) = true := decide_eq_true c3; clear c3; obtain rfl := Option.some.inj H
  go_enter Tryz.func221, Tryz.ntmps221
  go_wp2
  go_ret
  exact ⟨cl, d0⟩
 rw [if_neg c3] at H; have c3b0 : decide ((a0.size : Int) ≤ (wrap64 (Int.tdiv a1 8))) = false := decide_eq_false c3; clear c3; obtain ⟨ji4, hji4⟩ : ∃ j_ : Int, (wrap64 (Int.tdiv a1 8)) = j_ := ⟨_, rfl⟩
 replace H : (if 0 ≤ (ji4) then (if (ji4) < (a0.size : Int) then (bulletinref18_bit.l0 k (wrap64 (bt a0 (ji4))) (Int.tmod a1 8)) else (none)) else (none)) = some r := by first | (rw [hji4] at H; exact H) | (simp only [hji4] at H ⊢; exact H)
 (try rw [hji4] at c3b0)
 have hji4w : (IntKind.i64.wrap (Int.tdiv a1 8)) = ji4 := (i64_w _).trans hji4
 by_cases c5 : 0 ≤ (ji4)
 ·rw [if_pos c5] at H; have c5b0 := decide_eq_true c5; clear c5
  by_cases c6 : (ji4) < (a0.size : Int)
  ·rw [if_pos c6] at H; have c6b0 := decide_eq_true c6; clear c6; have H' := Aside0.mk H; clear H; have p7 : 0 ≤ ((ji4) : Int) := od; have q7 : (ji4) < (a0.size : Int) := od; have hx7 := bt_at a0 (ji4); replace p7 := eq_true p7; replace q7 := eq_true q7
   go_enter Tryz.func221, Tryz.ntmps221
   go_wp2
   go_loopg [5, 6] k (fun kq v5 v6 w' => ∃ (x5_1 : Int) (x6_1 : Int), v5 = .int .i64 x5_1 ∧ v6 = .int .i64 x6_1 ∧ Aside0 (bulletinref18_bit.l0 kq x5_1 x6_1 = some r) ∧ Aside0 (kq ≤ k) ∧ Drawn0 w w')
   case atStart => exact ⟨(wrap64 (bt a0 (ji4))), (Int.tmod a1 8), (by first | rfl | (simp; done) | (simp only [← hji4] <;> (first | rfl | simp)) | (simp [*]; done) | (simp [nil_ne]; done) | (simp [u8_w, i64w_]; done) | (simp [size_lit]; done) | (simp; unfold wrap64; omega)), cl, H', ⟨Nat.le_refl _⟩, d0⟩
   case round =>
    clear H'
    try clear c2
    try clear p2
    try clear c3
    try clear c3b0
    try clear c5
    try clear c5b0
    try clear c6
    try clear c6b0
    try clear p6
    try clear p7
    try clear q7
    try clear hx7
    try clear p7
    try clear q7
    obtain ⟨x5_1, x6_1, rfl, rfl, HA, HK1, ⟨m1, rfl⟩⟩ := hrel; cases gk with
    | zero => exact absurd HA.out (by simp [bulletinref18_bit.l0])
    | succ k1 =>
     have H := HA.out; clear HA; simp only [bulletinref18_bit.l0] at H
     by_cases c8 : x6_1 < 7
     ·rw [if_pos c8] at H; have c8b0 := decide_eq_true c8; clear c8; have H' := Aside0.mk H; clear H
      go_wp2
      go_roundg k1
      case measure => have := HK1.out; omega
      case rel => exact ⟨(wrap64 (Int.tdiv x5_1 2)), (wrap64 (x6_1 + 1)), cl, cl, H', ⟨by have := HK1.out; omega⟩, d0⟩
     rw [if_neg c8] at H; have c8b0 := decide_eq_false c8; clear c8; obtain rfl := Option.some.inj H
     go_wp2
     go_ret
     exact ⟨by first | rfl | (simp; done) | (simp only [← hji4] <;> (first | rfl | simp)) | (simp [*]; done) | (simp [nil_ne]; done) | (simp [u8_w, i64w_]; done) | (simp [size_lit]; done) | (simp; unfold wrap64; omega), d0⟩
  rw [if_neg c6] at H; exact absurd H (by simp)
 rw [if_neg c5] at H; exact absurd H (by simp)

def bulletinref18_letter.f (a0 : Int) : Option (Int) := if a0 < 26 then (some ((wrap64 (65 + a0)) % 256)) else (if a0 < 52 then (some ((wrap64 ((wrap64 (97 + a0)) - 26)) % 256)) else (if a0 < 62 then (some ((wrap64 ((wrap64 (48 + a0)) - 52)) % 256)) else (if a0 = 62 then (some 43) else (some 47))))
set_option maxHeartbeats 8000000 in
set_option maxRecDepth 100000 in
theorem bulletinref18_letter.calls (a0 : Int) (r : Int) (w : World) (h : bulletinref18_letter.f a0 = some r) :
  Calls Tryz.prog 220 #[.int .i64 a0] w fun e w' => e = .returned (.int .u8 r) ∧ Drawn0 w w' := by
 have H : (if a0 < 26 then (some ((wrap64 (65 + a0)) % 256)) else (if a0 < 52 then (some ((wrap64 ((wrap64 (97 + a0)) - 26)) % 256)) else (if a0 < 62 then (some ((wrap64 ((wrap64 (48 + a0)) - 52)) % 256)) else (if a0 = 62 then (some 43) else (some 47))))) = some r := h; clear h
 by_cases c2 : a0 < 26
 ·rw [if_pos c2] at H; have c2b0 := decide_eq_true c2; clear c2; obtain rfl := Option.some.inj H
  go_enter Tryz.func220, Tryz.ntmps220
  go_wp2
  go_ret
  exact ⟨cl, d0⟩
 rw [if_neg c2] at H; have c2b0 := decide_eq_false c2; clear c2
 by_cases c3 : a0 < 52
 ·rw [if_pos c3] at H; have c3b0 := decide_eq_true c3; clear c3; obtain rfl := Option.some.inj H
  go_enter Tryz.func220, Tryz.ntmps220
  go_wp2
  go_ret
  exact ⟨cl, d0⟩
 rw [if_neg c3] at H; have c3b0 := decide_eq_false c3; clear c3
 by_cases c4 : a0 < 62
 ·rw [if_pos c4] at H; have c4b0 := decide_eq_true c4; clear c4; obtain rfl := Option.some.inj H
  go_enter Tryz.func220, Tryz.ntmps220
  go_wp2
  go_ret
  exact ⟨cl, d0⟩
 rw [if_neg c4] at H; have c4b0 := decide_eq_false c4; clear c4
 by_cases c5 : a0 = 62
 ·rw [if_pos c5] at H; have c5b0 := beq_iff_eq.mpr c5; have c5b1 := bne_eq_false_iff_eq.mpr c5; clear c5; obtain rfl := Option.some.inj H
  go_enter Tryz.func220, Tryz.ntmps220
  go_wp2
  go_ret
  exact ⟨cl, d0⟩
 rw [if_neg c5] at H; have c5b0 := beq_eq_false_iff_ne.mpr c5; have c5b1 := bne_iff_ne.mpr c5; obtain rfl := Option.some.inj H
 go_enter Tryz.func220, Tryz.ntmps220
 go_wp2
 go_ret
 exact ⟨cl, d0⟩

end Go.Proofs.YtihabmcaplnbcaaGreatDoor.Fn
namespace Go.Proofs.YtihabmcaplnbcaaGreatDoor.Fn
open Go.RowKit Go.Proofs.YtihabmcaplnbcaaGreatDoorW.PrintWords Go.Proofs.YtihabmcaplnbcaaGreatDoorW.PrintLast Go.Proofs.YtihabmcaplnbcaaGreatDoorW.PrintMore
attribute [local go_sem] max2_int min2_int max_two min_two max_three min_three max_four min_four
set_option linter.unusedVariables false
set_option linter.unusedSimpArgs false

mutual
def bulletinref18_Plain.l0 : Nat → ByteArray → ByteArray → Int → Option (ByteArray)
 | 0, _, _, _ => none
 | k + 1, x0, x3, x4 => if x4 < (wrap64 (8 * (x0.size : Int))) then (bulletinref18_Plain.l1 k x0 x3 x4 0 0) else (bulletinref18_Plain.l2 k x3)
def bulletinref18_Plain.l1 : Nat → ByteArray → ByteArray → Int → Int → Int → Option (ByteArray)
 | 0, _, _, _, _, _ => none
 | k + 1, x0, x3, x4, x5, x6 => if x6 < 6 then ((bulletinref18_bit.f k x0 (wrap64 (x4 + x6))).bind fun t872 => (bulletinref18_Plain.l1 k x0 x3 x4 (wrap64 ((wrap64 (2 * x5)) + t872)) (wrap64 (x6 + 1)))) else ((bulletinref18_letter.f x5).bind fun t873 => ((some (([t873] : List Int) : List Int)).bind fun y874 => (if x3.size + (strOfNums y874).size ≤ 9223372036854775807 then (bulletinref18_Plain.l0 k x0 (x3 ++ (strOfNums y874)) (wrap64 (x4 + 6))) else (none))))
def bulletinref18_Plain.l2 : Nat → ByteArray → Option (ByteArray)
 | 0, _ => none
 | k + 1, x3 => if ((x3.size : Int) % 4) = 0 then (some x3) else (if x3.size + 1 ≤ 9223372036854775807 then (bulletinref18_Plain.l2 k (x3 ++ (⟨#[61]⟩ : ByteArray))) else (none))
end
def bulletinref18_Plain.f (k : Nat) (a0 : ByteArray) : Option (ByteArray) := bulletinref18_Plain.l0 k a0 (⟨#[]⟩ : ByteArray) 0
set_option maxHeartbeats 8000000 in
set_option maxRecDepth 100000 in
theorem bulletinref18_Plain.calls (k : Nat) (a0 : ByteArray) (r : ByteArray) (w : World) (h : bulletinref18_Plain.f k a0 = some r) :
  Calls Tryz.prog 206 #[.string a0] w fun e w' => e = .returned (.string r) ∧ Below w.heap.size w w' := by
 have HB := Aside0.mk (Below.refl w.heap.size w); have H : (bulletinref18_Plain.l0 k a0 (⟨#[]⟩ : ByteArray) 0) = some r := h; clear h; have H' := Aside0.mk H; clear H
 go_enter Tryz.func206, Tryz.ntmps206
 go_wp2
 go_loopg [3, 4] k (fun kq v3 v4 w' => ∃ (x3_1 : ByteArray) (x4_1 : Int), v3 = .string x3_1 ∧ v4 = .int .i64 x4_1 ∧ Aside0 (bulletinref18_Plain.l0 kq a0 x3_1 x4_1 = some r) ∧ Aside0 (kq ≤ k) ∧ Aside0 (Below w.heap.size w w'))
 case atStart => exact ⟨((⟨#[]⟩ : ByteArray)), (0), cl, cl, H', ⟨Nat.le_refl _⟩, ⟨bw⟩⟩
 case round =>
  clear H'; obtain ⟨x3_1, x4_1, rfl, rfl, HA, HK1, HB⟩ := hrel; cases gk with
  | zero => exact absurd HA.out (by simp [bulletinref18_Plain.l0])
  | succ k1 =>
   have H := HA.out; clear HA; simp only [bulletinref18_Plain.l0] at H
   by_cases c2 : x4_1 < (wrap64 (8 * (a0.size : Int)))
   ·rw [if_pos c2] at H; have c2b0 := decide_eq_true c2; clear c2; have H' := Aside0.mk H; clear H
    go_wp2
    go_loopg [5, 6] k1 (fun kq v5 v6 w' => ∃ (x5_2 : Int) (x6_2 : Int), v5 = .int .i64 x5_2 ∧ v6 = .int .i64 x6_2 ∧ Aside0 (bulletinref18_Plain.l1 kq a0 x3_1 x4_1 x5_2 x6_2 = some r) ∧ Aside0 (kq ≤ k1) ∧ Aside0 (Below w.heap.size w w'))
    case atStart => exact ⟨(0), (0), cl, cl, H', ⟨Nat.le_refl _⟩, ⟨bw⟩⟩
    case round =>
     clear H'
     try clear c2
     try clear c2b0
     try clear p2
     obtain ⟨x5_2, x6_2, rfl, rfl, HA, HK2, HB⟩ := hrel; cases gk with
     | zero => exact absurd HA.out (by simp [bulletinref18_Plain.l1])
     | succ k2 =>
      have H := HA.out; clear HA; simp only [bulletinref18_Plain.l1] at H
      by_cases c3 : x6_2 < 6
      ·rw [if_pos c3] at H; have c3b0 := decide_eq_true c3; clear c3; replace H := Option.bind_eq_some_iff.mp H; obtain ⟨t872, A40, H⟩ := H; have A4 := Aside0.mk A40; clear A40; have H' := Aside0.mk H; clear H
       go_wp2_with (first | ((with_reducible refine gate_callee (f := 221) rfl ?_); refine goesL_ (some 24) rfl rfl Tryz.func221 (by kernel_rfl) rfl #[.string a0, .int .i64 (wrap64 (x4_1 + x6_2))] rfl am ?_; (with_reducible refine (bulletinref18_bit.calls k2 a0 (wrap64 (x4_1 + x6_2)) t872 _ A4.out).mono ?_); rintro e w' ⟨rfl, ⟨nd, rfl⟩⟩; refine ⟨_, rfl, ?_⟩))
       go_roundg k2
       case measure => have := HK1.out; have := HK2.out; omega
       case rel => exact ⟨(wrap64 ((wrap64 (2 * x5_2)) + t872)), (wrap64 (x6_2 + 1)), cl, cl, H', ⟨by have := HK1.out; have := HK2.out; omega⟩, ⟨bw⟩⟩
      rw [if_neg c3] at H; have c3b0 := decide_eq_false c3; clear c3; replace H := Option.bind_eq_some_iff.mp H; obtain ⟨t873, A50, H⟩ := H; have A5 := Aside0.mk A50; clear A50; obtain ⟨y874, hy874⟩ : ∃ y_ : List Int, y_ = (([t873] : List Int)) := ⟨_, rfl⟩
      replace H : (if x3_1.size + (strOfNums y874).size ≤ 9223372036854775807 then (bulletinref18_Plain.l0 k2 a0 (x3_1 ++ (strOfNums y874)) (wrap64 (x4_1 + 6))) else (none)) = some r := by first | (rw [hy874]; with_reducible exact H) | (have H2_ := (Option.bind_some _ _).symm.trans H; rw [hy874]; with_reducible exact H2_) | (have H2_ := (Option.bind_some _ _).symm.trans H; with_reducible exact H2_) | with_reducible exact H | (rw [hy874]; exact H) | exact H
      have Ny874 := Aside0.mk hy874; clear hy874
      by_cases c6 : x3_1.size + (strOfNums y874).size ≤ 9223372036854775807
      ·rw [if_pos c6] at H; have c6b0 := eq_true c6; have c6b1 := decide_eq_true c6
       try have c6b2 : (9223372036854775807 < x3_1.size + (strOfNums y874).size) = False := eq_false (Nat.not_lt.2 c6)
       have H' := Aside0.mk H; clear H
       go_wp2_with (first | ((with_reducible refine gate_callee (f := 220) rfl ?_); refine goesL_ (some 28) rfl rfl Tryz.func220 (by kernel_rfl) rfl #[.int .i64 x5_2] rfl am ?_; (with_reducible refine (bulletinref18_letter.calls x5_2 t873 _ A5.out).mono ?_); rintro e w' ⟨rfl, ⟨nd, rfl⟩⟩; refine ⟨_, rfl, ?_⟩) | ((with_reducible refine gate_dst (N := 29) rfl ?_); refine Kd.R_lit (Kd.int .u8) _ 5 ?hg (N := 29) ?hd (xs := ([t873] : List Int)) (inner := [.int .u8 t873]) (ok := fun _ => True) (okp := fun _ => True) ?hr ?hp (fun _ hk => hk) trivial (Below.refl _ _) (Nat.le_refl _) (by simp) ?_; (case hd => rfl); (case hg => rfl); (case hr => first | (go_simp; done) | (go_simp; rfl)); (case hp => exact (Reps.one (show Kd.M (Kd.int .u8) _ _ _ t873 [.int .u8 t873] from rfl) (Reps.none _ _))); intro v875 w7 ho8 hb hg_ hnew_; clear hg_ hnew_; (first | rw [← Ny874.out] at ho8 | (simp only [Int.reduceToNat] at ho8; rw [← Ny874.out] at ho8)); have n0_ := Aside0.mk (Kd.R_lower ho8 (below_size bw)); have n1_ := Aside0.mk (below_step bw hb); clear HB; have HO876 := n0_; have HB := n1_; clear n0_ n1_; clear hb ho8; have hcv9 := own_string (P := Tryz.prog) Tryz.underlying125 Tryz.underlying5 Tryz.underlying9 (Kd.own_of_R HO876.out)))
       go_roundg k2
       case measure => have := HK1.out; have := HK2.out; omega
       case rel => exact ⟨(x3_1 ++ (strOfNums y874)), (wrap64 (x4_1 + 6)), cl, cl, H', ⟨by have := HK1.out; have := HK2.out; omega⟩, ⟨bw⟩⟩
      rw [if_neg c6] at H; exact absurd H (by simp)
   rw [if_neg c2] at H; have c2b0 := decide_eq_false c2; clear c2; have H' := Aside0.mk H; clear H
   go_wp2
   go_loopg [3] k1 (fun kq v3 w' => ∃ (x3_2 : ByteArray), v3 = .string x3_2 ∧ Aside0 (bulletinref18_Plain.l2 kq x3_2 = some r) ∧ Aside0 (kq ≤ k1) ∧ Aside0 (Below w.heap.size w w'))
   case atStart => exact ⟨(x3_1), cl, H', ⟨Nat.le_refl _⟩, ⟨bw⟩⟩
   case round =>
    clear H'
    try clear c2
    try clear c2b0
    try clear p2
    try clear c3
    try clear c3b0
    try clear c6
    try clear c6b0
    try clear c6b1
    try clear c6b2
    try clear p6
    try clear hcv9
    try clear p2
    obtain ⟨x3_2, rfl, HA, HK2, HB⟩ := hrel; cases gk with
    | zero => exact absurd HA.out (by simp [bulletinref18_Plain.l2])
    | succ k2 =>
     have H := HA.out; clear HA; simp only [bulletinref18_Plain.l2] at H
     by_cases c10 : ((x3_2.size : Int) % 4) = 0
     ·rw [if_pos c10] at H; have c10b0 := beq_iff_eq.mpr c10; have c10b1 := bne_eq_false_iff_eq.mpr c10; clear c10; obtain rfl := Option.some.inj H
      go_wp2
      go_ret
      exact ⟨ew, bw⟩
     rw [if_neg c10] at H; have c10b0 := beq_eq_false_iff_ne.mpr c10; have c10b1 := bne_iff_ne.mpr c10
     by_cases c11 : x3_2.size + 1 ≤ 9223372036854775807
     ·rw [if_pos c11] at H; have c11b0 := eq_true c11; have c11b1 := decide_eq_true c11
      try have c11b2 : (9223372036854775807 < x3_2.size + 1) = False := eq_false (Nat.not_lt.2 c11)
      have H' := Aside0.mk H; clear H
      go_wp2
      go_roundg k2
      case measure => have := HK1.out; have := HK2.out; omega
      case rel => exact ⟨(x3_2 ++ (⟨#[61]⟩ : ByteArray)), cl, H', ⟨by have := HK1.out; have := HK2.out; omega⟩, ⟨bw⟩⟩
     rw [if_neg c11] at H; exact absurd H (by simp)

end Go.Proofs.YtihabmcaplnbcaaGreatDoor.Fn
namespace Go.Proofs.YtihabmcaplnbcaaGreatDoor.Fn
open Go.RowKit Go.Proofs.YtihabmcaplnbcaaGreatDoorW.PrintWords Go.Proofs.YtihabmcaplnbcaaGreatDoorW.PrintLast Go.Proofs.YtihabmcaplnbcaaGreatDoorW.PrintMore
attribute [local go_sem] max2_int min2_int max_two min_two max_three min_three max_four min_four
set_option linter.unusedVariables false
set_option linter.unusedSimpArgs false
def bulletinref18_value.l0 : Nat → Int → Int → Option (Int)
 | 0, _, _ => none
 | k + 1, x0, x3 => if x3 < 64 then ((bulletinref18_letter.f x3).bind fun t871 => (if t871 = x0 then (some x3) else (bulletinref18_value.l0 k x0 (wrap64 (x3 + 1))))) else (some (-1))
def bulletinref18_value.f (k : Nat) (a0 : Int) : Option (Int) := bulletinref18_value.l0 k a0 0
theorem bulletinref18_value.mono_l : ∀ k, (∀ y0 y1, LeO (bulletinref18_value.l0 k y0 y1) (bulletinref18_value.l0 (k + 1) y0 y1))
 | 0 => fun _ _ r h => by simp [bulletinref18_value.l0] at h
 | k + 1 => by
  have ih0 := bulletinref18_value.mono_l k
  ·intro y0 y1; unfold bulletinref18_value.l0
   repeat' first
   | (with_reducible exact ih0 _ _)
   | (with_reducible exact LeO.refl _)
   | (with_reducible exact LeO.none _)
   | (with_reducible refine LeO.ite ?_ ?_)
   | (with_reducible refine LeO.bind ?_ (fun _ => ?_))
   | exact ih0 _ _
   | exact LeO.none _
   | refine LeO.ite ?_ ?_
   | refine LeO.bind ?_ (fun _ => ?_)
theorem bulletinref18_value.mono : ∀ a0 k, LeO (bulletinref18_value.f k a0) (bulletinref18_value.f (k + 1) a0) := by
 intro a0 k; have ih0 := bulletinref18_value.mono_l k; unfold bulletinref18_value.f
 repeat' first
   | (with_reducible exact ih0 _ _)
   | (with_reducible exact LeO.refl _)
   | (with_reducible exact LeO.none _)
   | (with_reducible refine LeO.ite ?_ ?_)
   | (with_reducible refine LeO.bind ?_ (fun _ => ?_))
   | exact ih0 _ _
   | exact LeO.none _
   | refine LeO.ite ?_ ?_
   | refine LeO.bind ?_ (fun _ => ?_)
set_option maxHeartbeats 8000000 in
set_option maxRecDepth 100000 in
theorem bulletinref18_value.calls (k : Nat) (a0 : Int) (r : Int) (w : World) (h : bulletinref18_value.f k a0 = some r) :
  Calls Tryz.prog 205 #[.int .u8 a0] w fun e w' => e = .returned (.int .i64 r) ∧ Drawn0 w w' := by
 have H : (bulletinref18_value.l0 k a0 0) = some r := h; clear h; have H' := Aside0.mk H; clear H
 go_enter Tryz.func205, Tryz.ntmps205
 go_wp2
 go_loopg [3] k (fun kq v3 w' => ∃ (x3_1 : Int), v3 = .int .i64 x3_1 ∧ Aside0 (bulletinref18_value.l0 kq a0 x3_1 = some r) ∧ Aside0 (kq ≤ k) ∧ Drawn0 w w')
 case atStart => exact ⟨(0), cl, H', ⟨Nat.le_refl _⟩, d0⟩
 case round =>
  clear H'; obtain ⟨x3_1, rfl, HA, HK1, ⟨m1, rfl⟩⟩ := hrel; cases gk with
  | zero => exact absurd HA.out (by simp [bulletinref18_value.l0])
  | succ k1 =>
   have H := HA.out; clear HA; simp only [bulletinref18_value.l0] at H
   by_cases c2 : x3_1 < 64
   ·rw [if_pos c2] at H; have c2b0 := decide_eq_true c2; clear c2; replace H := Option.bind_eq_some_iff.mp H; obtain ⟨t871, A30, H⟩ := H; have A3 := Aside0.mk A30; clear A30
    by_cases c4 : t871 = a0
    ·rw [if_pos c4] at H; have c4b0 := beq_iff_eq.mpr c4; have c4b1 := bne_eq_false_iff_eq.mpr c4; clear c4; obtain rfl := Option.some.inj H
     go_wp2_with (first | ((with_reducible refine gate_callee (f := 220) rfl ?_); refine goesL_ (some 9) rfl rfl Tryz.func220 (by kernel_rfl) rfl #[.int .i64 x3_1] rfl am ?_; (with_reducible refine (bulletinref18_letter.calls x3_1 t871 _ A3.out).mono ?_); rintro e w' ⟨rfl, ⟨nd, rfl⟩⟩; refine ⟨_, rfl, ?_⟩))
     go_ret
     exact ⟨cl, d0⟩
    rw [if_neg c4] at H; have c4b0 := beq_eq_false_iff_ne.mpr c4; have c4b1 := bne_iff_ne.mpr c4; have H' := Aside0.mk H; clear H
    go_wp2_with (first | ((with_reducible refine gate_callee (f := 220) rfl ?_); refine goesL_ (some 9) rfl rfl Tryz.func220 (by kernel_rfl) rfl #[.int .i64 x3_1] rfl am ?_; (with_reducible refine (bulletinref18_letter.calls x3_1 t871 _ A3.out).mono ?_); rintro e w' ⟨rfl, ⟨nd, rfl⟩⟩; refine ⟨_, rfl, ?_⟩))
    go_roundg k1
    case measure => have := HK1.out; omega
    case rel => exact ⟨(wrap64 (x3_1 + 1)), cl, H', ⟨by have := HK1.out; omega⟩, d0⟩
   rw [if_neg c2] at H; have c2b0 := decide_eq_false c2; clear c2; obtain rfl := Option.some.inj H
   go_wp2
   go_ret
   exact ⟨cl, d0⟩

end Go.Proofs.YtihabmcaplnbcaaGreatDoor.Fn
namespace Go.Proofs.YtihabmcaplnbcaaGreatDoor.Fn
open Go.RowKit Go.Proofs.YtihabmcaplnbcaaGreatDoorW.PrintWords Go.Proofs.YtihabmcaplnbcaaGreatDoorW.PrintLast Go.Proofs.YtihabmcaplnbcaaGreatDoorW.PrintMore
attribute [local go_sem] max2_int min2_int max_two min_two max_three min_three max_four min_four
set_option linter.unusedVariables false
set_option linter.unusedSimpArgs false

mutual
def bulletinref18_Decode.l0 : Nat → ByteArray → ByteArray → Int → Int → Int → Option (ByteArray × Bool)
 | 0, _, _, _, _, _ => none
 | k + 1, x4, x5, x6, x7, x8 => if x8 < (x4.size : Int) then (if 0 ≤ x8 then ((bulletinref18_value.f k (bt x4 x8)).bind fun t879 => (bulletinref18_Decode.l1 k x4 x5 x6 x7 x8 t879 32)) else (none)) else ((bulletinref18_Plain.f k x5).bind fun t878 => (if t878.toList = x4.toList then (some (x5, true)) else (some ((⟨#[]⟩ : ByteArray), false))))
def bulletinref18_Decode.l1 : Nat → ByteArray → ByteArray → Int → Int → Int → Int → Int → Option (ByteArray × Bool)
 | 0, _, _, _, _, _, _, _ => none
 | k + 1, x4, x5, x6, x7, x8, x9, x10 => if x10 ≥ 1 then (bulletinref18_Decode.j2 k x4 x5 x6 x7 x8 x9 x10 (decide (x9 ≥ 0))) else (bulletinref18_Decode.j2 k x4 x5 x6 x7 x8 x9 x10 false)
def bulletinref18_Decode.j2 : Nat → ByteArray → ByteArray → Int → Int → Int → Int → Int → Bool → Option (ByteArray × Bool)
 | 0, _, _, _, _, _, _, _, _ => none
 | k + 1, x4, x5, x6, x7, x8, x9, x10, x28 => if x28 = true then (if x10 = 0 then (none) else (if (wrap64 (x7 + 1)) = 8 then ((some (([(wrap64 ((wrap64 (2 * x6)) + (Int.tmod (wrap64 (Int.tdiv x9 x10)) 2))) % 256] : List Int) : List Int)).bind fun y880 => (if x5.size + (strOfNums y880).size ≤ 9223372036854775807 then (bulletinref18_Decode.l1 k x4 (x5 ++ (strOfNums y880)) 0 0 x8 x9 (wrap64 (Int.tdiv x10 2))) else (none))) else (bulletinref18_Decode.l1 k x4 x5 (wrap64 ((wrap64 (2 * x6)) + (Int.tmod (wrap64 (Int.tdiv x9 x10)) 2))) (wrap64 (x7 + 1)) x8 x9 (wrap64 (Int.tdiv x10 2))))) else (bulletinref18_Decode.l0 k x4 x5 x6 x7 (wrap64 (x8 + 1)))
end
def bulletinref18_Decode.f (k : Nat) (a0 : ByteArray) : Option (ByteArray × Bool) := (bulletinref18_Bare.f k a0).bind fun t877 => (bulletinref18_Decode.l0 k t877 (⟨#[]⟩ : ByteArray) 0 0 0)
set_option maxHeartbeats 8000000 in
set_option maxRecDepth 100000 in
theorem bulletinref18_Decode.calls (k : Nat) (a0 : ByteArray) (r1 : ByteArray) (r2 : Bool) (w : World) (h : bulletinref18_Decode.f k a0 = some (r1, r2)) :
  Calls Tryz.prog 180 #[.string a0] w fun e w' => e = .returned (.tuple #[.string r1, .bool r2]) ∧ Below w.heap.size w w' := by
 have HB := Aside0.mk (Below.refl w.heap.size w); have H : ((bulletinref18_Bare.f k a0).bind fun t877 => (bulletinref18_Decode.l0 k t877 (⟨#[]⟩ : ByteArray) 0 0 0)) = some (r1, r2) := h; clear h; replace H := Option.bind_eq_some_iff.mp H; obtain ⟨t877, A20, H⟩ := H; have A2 := Aside0.mk A20; clear A20; have H' := Aside0.mk H; clear H
 go_enter Tryz.func180, Tryz.ntmps180
 go_wp2_with (first | ((with_reducible refine gate_callee (f := 204) rfl ?_); refine goesL_ (some 12) rfl rfl Tryz.func204 (by kernel_rfl) rfl #[.string a0] rfl am ?_; (with_reducible refine (bulletinref18_Bare.calls k a0 t877 _ A2.out).mono ?_); rintro e w' ⟨rfl, ⟨nd, rfl⟩⟩; refine ⟨_, rfl, ?_⟩))
 go_loopg [5, 6, 7, 8] k (fun kq v5 v6 v7 v8 w' => ∃ (x5_1 : ByteArray) (x6_1 : Int) (x7_1 : Int) (x8_1 : Int), v5 = .string x5_1 ∧ v6 = .int .i64 x6_1 ∧ v7 = .int .i64 x7_1 ∧ v8 = .int .i64 x8_1 ∧ Aside0 (bulletinref18_Decode.l0 kq t877 x5_1 x6_1 x7_1 x8_1 = some (r1, r2)) ∧ Aside0 (kq ≤ k) ∧ Aside0 (Below w.heap.size w w'))
 case atStart => exact ⟨((⟨#[]⟩ : ByteArray)), (0), (0), (0), cl, cl, cl, cl, H', ⟨Nat.le_refl _⟩, ⟨bw⟩⟩
 case round =>
  clear H'
  try clear c1
  try clear c2
  try clear p2
  obtain ⟨x5_1, x6_1, x7_1, x8_1, rfl, rfl, rfl, rfl, HA, HK1, HB⟩ := hrel; cases gk with
  | zero => exact absurd HA.out (by simp [bulletinref18_Decode.l0])
  | succ k1 =>
   have H := HA.out; clear HA; simp only [bulletinref18_Decode.l0] at H
   by_cases c3 : x8_1 < (t877.size : Int)
   ·rw [if_pos c3] at H; have c3b0 := decide_eq_true c3; clear c3
    by_cases c4 : 0 ≤ x8_1
    ·rw [if_pos c4] at H; have c4b0 := decide_eq_true c4; clear c4; replace H := Option.bind_eq_some_iff.mp H; obtain ⟨t879, A60, H⟩ := H; have A6 := Aside0.mk A60; clear A60; have H' := Aside0.mk H; clear H; have p5 : 0 ≤ (x8_1 : Int) := od; have q5 : x8_1 < (t877.size : Int) := od; have hx5 := bt_at t877 x8_1; replace p5 := eq_true p5; replace q5 := eq_true q5
     go_wp2_with (first | ((with_reducible refine gate_callee (f := 205) rfl ?_); refine goesL_ (some 22) rfl rfl Tryz.func205 (by kernel_rfl) rfl #[.int .u8 (bt t877 x8_1)] rfl am ?_; (with_reducible refine (bulletinref18_value.calls k1 (bt t877 x8_1) t879 _ A6.out).mono ?_); rintro e w' ⟨rfl, ⟨nd, rfl⟩⟩; refine ⟨_, rfl, ?_⟩))
     go_loopg [5, 6, 7, 10] k1 (fun kq v5 v6 v7 v10 w' => ∃ (x5_2 : ByteArray) (x6_2 : Int) (x7_2 : Int) (x10_2 : Int), v5 = .string x5_2 ∧ v6 = .int .i64 x6_2 ∧ v7 = .int .i64 x7_2 ∧ v10 = .int .i64 x10_2 ∧ Aside0 (bulletinref18_Decode.l1 kq t877 x5_2 x6_2 x7_2 x8_1 t879 x10_2 = some (r1, r2)) ∧ Aside0 (kq ≤ k1) ∧ Aside0 (Below w.heap.size w w'))
     case atStart => exact ⟨(x5_1), (x6_1), (x7_1), (32), cl, cl, cl, cl, H', ⟨Nat.le_refl _⟩, ⟨bw⟩⟩
     case round =>
      clear H'
      try clear c1
      try clear c2
      try clear p2
      try clear c3
      try clear c3b0
      try clear c4
      try clear c4b0
      try clear p5
      try clear q5
      try clear hx5
      try clear p2
      try clear p5
      try clear q5
      obtain ⟨x5_2, x6_2, x7_2, x10_2, rfl, rfl, rfl, rfl, HA, HK2, HB⟩ := hrel; cases gk with
      | zero => exact absurd HA.out (by simp [bulletinref18_Decode.l1])
      | succ k2 =>
       have H := HA.out; clear HA; simp only [bulletinref18_Decode.l1] at H; have HC7 := Aside0.mk H; clear H
       go_upto_region 10 with (fail)
       go_cut [28] (fun v28 wc => ∃ (kq : Nat) (x28_6 : Bool), v28 = .bool x28_6 ∧ Aside0 (bulletinref18_Decode.j2 kq t877 x5_2 x6_2 x7_2 x8_1 t879 x10_2 x28_6 = some (r1, r2)) ∧ Aside0 (kq ≤ k2) ∧ Aside0 (Below w.heap.size w wc))
       case first =>
        have H := HC7.out; clear HC7
        by_cases c8 : x10_2 ≥ 1
        ·rw [if_pos c8] at H; have c8b0 : decide (1 ≤ x10_2) = true := decide_eq_true c8; clear c8
         (first | rw [c8b0] | (simp only [i64_w, i32_w]; rw [c8b0]) | skip)
         have H' := Aside0.mk H; clear H
         go_wp2
         go_meet
         case rel => exact ⟨_, (decide (t879 ≥ 0)), cl, H', ⟨by have := HK1.out; have := HK2.out; first | omega | exact Nat.le_refl _⟩, ⟨bw⟩⟩
        rw [if_neg c8] at H; have c8b0 : decide (1 ≤ x10_2) = false := decide_eq_false c8; clear c8
        (first | rw [c8b0] | (simp only [i64_w, i32_w]; rw [c8b0]) | skip)
        have H' := Aside0.mk H; clear H
        go_wp2
        go_meet
        case rel => exact ⟨_, (false), cl, H', ⟨by have := HK1.out; have := HK2.out; first | omega | exact Nat.le_refl _⟩, ⟨bw⟩⟩
       case rest =>
        clear HC7
        try clear c1
        try clear c2
        try clear p2
        try clear c3
        try clear c3b0
        try clear c4
        try clear c4b0
        try clear p5
        try clear q5
        try clear hx5
        try clear c8
        try clear c8b0
        try clear p2
        try clear p5
        try clear q5
        obtain ⟨kq, x28_6, rfl, HA, HJ6, HB⟩ := hcut; cases kq with
        | zero => exact absurd HA.out (by simp [bulletinref18_Decode.j2])
        | succ kj6 =>
         have H := HA.out; clear HA; simp only [bulletinref18_Decode.j2] at H
         by_cases c9 : x28_6 = true
         ·subst c9; rw [if_pos rfl] at H
          by_cases c10 : x10_2 = 0
          ·rw [if_pos c10] at H; exact absurd H (by simp)
          rw [if_neg c10] at H; have c10b0 := beq_eq_false_iff_ne.mpr c10; have c10b1 := bne_iff_ne.mpr c10
          by_cases c11 : (wrap64 (x7_2 + 1)) = 8
          ·rw [if_pos c11] at H; have c11b0 := beq_iff_eq.mpr c11; have c11b1 := bne_eq_false_iff_eq.mpr c11; clear c11; obtain ⟨y880, hy880⟩ : ∃ y_ : List Int, y_ = (([(wrap64 ((wrap64 (2 * x6_2)) + (Int.tmod (wrap64 (Int.tdiv t879 x10_2)) 2))) % 256] : List Int)) := ⟨_, rfl⟩
           replace H : (if x5_2.size + (strOfNums y880).size ≤ 9223372036854775807 then (bulletinref18_Decode.l1 kj6 t877 (x5_2 ++ (strOfNums y880)) 0 0 x8_1 t879 (wrap64 (Int.tdiv x10_2 2))) else (none)) = some (r1, r2) := by first | (rw [hy880]; with_reducible exact H) | (have H2_ := (Option.bind_some _ _).symm.trans H; rw [hy880]; with_reducible exact H2_) | (have H2_ := (Option.bind_some _ _).symm.trans H; with_reducible exact H2_) | with_reducible exact H | (rw [hy880]; exact H) | exact H
           have Ny880 := Aside0.mk hy880; clear hy880
           by_cases c12 : x5_2.size + (strOfNums y880).size ≤ 9223372036854775807
           ·rw [if_pos c12] at H; have c12b0 := eq_true c12; have c12b1 := decide_eq_true c12
            try have c12b2 : (9223372036854775807 < x5_2.size + (strOfNums y880).size) = False := eq_false (Nat.not_lt.2 c12)
            have H' := Aside0.mk H; clear H
            go_wp2_with (first | ((with_reducible refine gate_dst (N := 45) rfl ?_); refine Kd.R_lit (Kd.int .u8) _ 5 ?hg (N := 45) ?hd (xs := ([(wrap64 ((wrap64 (2 * x6_2)) + (Int.tmod (wrap64 (Int.tdiv t879 x10_2)) 2))) % 256] : List Int)) (inner := [.int .u8 ((wrap64 ((wrap64 (2 * x6_2)) + (Int.tmod (wrap64 (Int.tdiv t879 x10_2)) 2))) % 256)]) (ok := fun _ => True) (okp := fun _ => True) ?hr ?hp (fun _ hk => hk) trivial (Below.refl _ _) (Nat.le_refl _) (by simp) ?_; (case hd => rfl); (case hg => rfl); (case hr => first | (go_simp; done) | (go_simp; rfl)); (case hp => exact (Reps.one (show Kd.M (Kd.int .u8) _ _ _ ((wrap64 ((wrap64 (2 * x6_2)) + (Int.tmod (wrap64 (Int.tdiv t879 x10_2)) 2))) % 256) [.int .u8 ((wrap64 ((wrap64 (2 * x6_2)) + (Int.tmod (wrap64 (Int.tdiv t879 x10_2)) 2))) % 256)] from rfl) (Reps.none _ _))); intro v881 w13 ho14 hb hg_ hnew_; clear hg_ hnew_; (first | rw [← Ny880.out] at ho14 | (simp only [Int.reduceToNat] at ho14; rw [← Ny880.out] at ho14)); have n0_ := Aside0.mk (Kd.R_lower ho14 (below_size bw)); have n1_ := Aside0.mk (below_step bw hb); clear HB; have HO882 := n0_; have HB := n1_; clear n0_ n1_; clear hb ho14; have hcv15 := own_string (P := Tryz.prog) Tryz.underlying125 Tryz.underlying5 Tryz.underlying9 (Kd.own_of_R HO882.out)))
            go_roundg kj6
            case measure => have := HK1.out; have := HK2.out; have := HJ6.out; omega
            case rel => exact ⟨(x5_2 ++ (strOfNums y880)), (0), (0), (wrap64 (Int.tdiv x10_2 2)), cl, cl, cl, cl, H', ⟨by have := HK1.out; have := HK2.out; have := HJ6.out; omega⟩, ⟨bw⟩⟩
           rw [if_neg c12] at H; exact absurd H (by simp)
          rw [if_neg c11] at H; have c11b0 := beq_eq_false_iff_ne.mpr c11; have c11b1 := bne_iff_ne.mpr c11; have H' := Aside0.mk H; clear H
          go_wp2
          go_roundg kj6
          case measure => have := HK1.out; have := HK2.out; have := HJ6.out; omega
          case rel => exact ⟨(x5_2), (wrap64 ((wrap64 (2 * x6_2)) + (Int.tmod (wrap64 (Int.tdiv t879 x10_2)) 2))), (wrap64 (x7_2 + 1)), (wrap64 (Int.tdiv x10_2 2)), cl, cl, cl, cl, H', ⟨by have := HK1.out; have := HK2.out; have := HJ6.out; omega⟩, ⟨bw⟩⟩
         replace c9 := Bool.eq_false_iff.mpr c9; subst c9; rw [if_neg nft] at H; have H' := Aside0.mk H; clear H
         go_wp2
         go_roundg kj6
         case measure => have := HK1.out; have := HK2.out; have := HJ6.out; omega
         case rel => exact ⟨(x5_2), (x6_2), (x7_2), (wrap64 (x8_1 + 1)), cl, cl, cl, cl, H', ⟨by have := HK1.out; have := HK2.out; have := HJ6.out; omega⟩, ⟨bw⟩⟩
    rw [if_neg c4] at H; exact absurd H (by simp)
   rw [if_neg c3] at H; have c3b0 := decide_eq_false c3; clear c3; replace H := Option.bind_eq_some_iff.mp H; obtain ⟨t878, A160, H⟩ := H; have A16 := Aside0.mk A160; clear A160
   by_cases c17 : t878.toList = t877.toList
   ·rw [if_pos c17] at H; have c17b0 := beq_iff_eq.mpr c17; have c17b1 := bne_eq_false_iff_eq.mpr c17; clear c17; simp only [Option.some.injEq, Prod.mk.injEq] at H; obtain ⟨rfl, rfl⟩ := H
    go_wp2_with (first | ((with_reducible refine gate_callee (f := 206) rfl ?_); refine goesL_ (some 49) rfl rfl Tryz.func206 (by kernel_rfl) rfl #[.string x5_1] rfl am ?_; (with_reducible refine (bulletinref18_Plain.calls k1 x5_1 t878 _ A16.out).mono ?_); rintro e w18 ⟨rfl, hb⟩; refine ⟨_, rfl, ?_⟩; have n0_ := Aside0.mk (below_step bw hb); clear HB; have HB := n0_; clear n0_; (try clear hb); (try clear hb2); (try clear hk); (try clear hi)))
    go_ret2
    exact ⟨ew, bw⟩
   rw [if_neg c17] at H; have c17b0 := beq_eq_false_iff_ne.mpr c17; have c17b1 := bne_iff_ne.mpr c17; simp only [Option.some.injEq, Prod.mk.injEq] at H; obtain ⟨rfl, rfl⟩ := H
   go_wp2_with (first | ((with_reducible refine gate_callee (f := 206) rfl ?_); refine goesL_ (some 49) rfl rfl Tryz.func206 (by kernel_rfl) rfl #[.string x5_1] rfl am ?_; (with_reducible refine (bulletinref18_Plain.calls k1 x5_1 t878 _ A16.out).mono ?_); rintro e w19 ⟨rfl, hb⟩; refine ⟨_, rfl, ?_⟩; have n0_ := Aside0.mk (below_step bw hb); clear HB; have HB := n0_; clear n0_; (try clear hb); (try clear hb2); (try clear hk); (try clear hi)))
   go_ret2
   exact ⟨ew, bw⟩

end Go.Proofs.YtihabmcaplnbcaaGreatDoor.Fn
namespace Go.Proofs.YtihabmcaplnbcaaGreatDoor.Fn
open Go.RowKit Go.Proofs.YtihabmcaplnbcaaGreatDoorW.PrintWords Go.Proofs.YtihabmcaplnbcaaGreatDoorW.PrintLast Go.Proofs.YtihabmcaplnbcaaGreatDoorW.PrintMore
attribute [local go_sem] max2_int min2_int max_two min_two max_three min_three max_four min_four
set_option linter.unusedVariables false
set_option linter.unusedSimpArgs false

def bulletinref17_Digit.l0 : Nat → Int → ByteArray → Int → Option (Int)
 | 0, _, _, _ => none
 | k + 1, x0, x3, x4 => if x4 < (x3.size : Int) then (if 0 ≤ x4 then (if (bt x3 x4) = x0 then (some (Int.tmod x4 16)) else (bulletinref17_Digit.l0 k x0 x3 (wrap64 (x4 + 1)))) else (none)) else (some (-1))
def bulletinref17_Digit.f (k : Nat) (a0 : Int) : Option (Int) := bulletinref17_Digit.l0 k a0 (⟨#[48, 49, 50, 51, 52, 53, 54, 55, 56, 57, 65, 66, 67, 68, 69, 70, 48, 49, 50, 51, 52, 53, 54, 55, 56, 57, 97, 98, 99, 100, 101, 102]⟩ : ByteArray) 0
theorem bulletinref17_Digit.mono_l : ∀ k, (∀ y0 y1 y2, LeO (bulletinref17_Digit.l0 k y0 y1 y2) (bulletinref17_Digit.l0 (k + 1) y0 y1 y2))
 | 0 => fun _ _ _ r h => by simp [bulletinref17_Digit.l0] at h
 | k + 1 => by
  have ih0 := bulletinref17_Digit.mono_l k
  ·intro y0 y1 y2; unfold bulletinref17_Digit.l0
   repeat' first
   | (with_reducible exact ih0 _ _ _)
   | (with_reducible exact LeO.refl _)
   | (with_reducible exact LeO.none _)
   | (with_reducible refine LeO.ite ?_ ?_)
   | (with_reducible refine LeO.bind ?_ (fun _ => ?_))
   | exact ih0 _ _ _
   | exact LeO.none _
   | refine LeO.ite ?_ ?_
   | refine LeO.bind ?_ (fun _ => ?_)
theorem bulletinref17_Digit.mono : ∀ a0 k, LeO (bulletinref17_Digit.f k a0) (bulletinref17_Digit.f (k + 1) a0) := by
 intro a0 k; have ih0 := bulletinref17_Digit.mono_l k; unfold bulletinref17_Digit.f
 repeat' first
   | (with_reducible exact ih0 _ _ _)
   | (with_reducible exact LeO.refl _)
   | (with_reducible exact LeO.none _)
   | (with_reducible refine LeO.ite ?_ ?_)
   | (with_reducible refine LeO.bind ?_ (fun _ => ?_))
   | exact ih0 _ _ _
   | exact LeO.none _
   | refine LeO.ite ?_ ?_
   | refine LeO.bind ?_ (fun _ => ?_)
attribute [local go_sem] u8_w
set_option maxHeartbeats 8000000 in
set_option maxRecDepth 100000 in
theorem bulletinref17_Digit.calls (k : Nat) (a0 : Int) (r : Int) (w : World) (h : bulletinref17_Digit.f k a0 = some r) :
  Calls Tryz.prog 219 #[.int .u8 a0] w fun e w' => e = .returned (.int .i64 r) ∧ Drawn0 w w' := by
 have H : (bulletinref17_Digit.l0 k a0 (⟨#[48, 49, 50, 51, 52, 53, 54, 55, 56, 57, 65, 66, 67, 68, 69, 70, 48, 49, 50, 51, 52, 53, 54, 55, 56, 57, 97, 98, 99, 100, 101, 102]⟩ : ByteArray) 0) = some r := h; clear h; have H' := Aside0.mk H; clear H
 go_enter Tryz.func219, Tryz.ntmps219
 go_wp2
 go_loopg [4] k (fun kq v4 w' => ∃ (x4_1 : Int), v4 = .int .i64 x4_1 ∧ Aside0 (bulletinref17_Digit.l0 kq a0 (⟨#[48, 49, 50, 51, 52, 53, 54, 55, 56, 57, 65, 66, 67, 68, 69, 70, 48, 49, 50, 51, 52, 53, 54, 55, 56, 57, 97, 98, 99, 100, 101, 102]⟩ : ByteArray) x4_1 = some r) ∧ Aside0 (kq ≤ k) ∧ Drawn0 w w')
 case atStart => exact ⟨(0), cl, H', ⟨Nat.le_refl _⟩, d0⟩
 case round =>
  clear H'; obtain ⟨x4_1, rfl, HA, HK1, ⟨m1, rfl⟩⟩ := hrel; cases gk with
  | zero => exact absurd HA.out (by simp [bulletinref17_Digit.l0])
  | succ k1 =>
   have H := HA.out; clear HA; simp only [bulletinref17_Digit.l0] at H
   by_cases c2 : x4_1 < ((⟨#[48, 49, 50, 51, 52, 53, 54, 55, 56, 57, 65, 66, 67, 68, 69, 70, 48, 49, 50, 51, 52, 53, 54, 55, 56, 57, 97, 98, 99, 100, 101, 102]⟩ : ByteArray).size : Int)
   ·rw [if_pos c2] at H; have c2b0 := decide_eq_true c2; have c2b09 : decide (x4_1 < (32 : Int)) = true := c2b0; clear c2
    by_cases c3 : 0 ≤ x4_1
    ·rw [if_pos c3] at H; have c3b0 := decide_eq_true c3; clear c3
     by_cases c5 : (bt (⟨#[48, 49, 50, 51, 52, 53, 54, 55, 56, 57, 65, 66, 67, 68, 69, 70, 48, 49, 50, 51, 52, 53, 54, 55, 56, 57, 97, 98, 99, 100, 101, 102]⟩ : ByteArray) x4_1) = a0
     ·rw [if_pos c5] at H; have c5b0 := beq_iff_eq.mpr c5; have c5b1 := bne_eq_false_iff_eq.mpr c5; clear c5; obtain rfl := Option.some.inj H; have p4 : 0 ≤ (x4_1 : Int) := od; have q4 : x4_1 < (32 : Int) := od; have hx4 := bt_at (⟨#[48, 49, 50, 51, 52, 53, 54, 55, 56, 57, 65, 66, 67, 68, 69, 70, 48, 49, 50, 51, 52, 53, 54, 55, 56, 57, 97, 98, 99, 100, 101, 102]⟩ : ByteArray) x4_1; replace p4 := eq_true p4; replace q4 := eq_true q4
      go_wp2
      go_ret
      exact ⟨cl, d0⟩
     rw [if_neg c5] at H; have c5b0 := beq_eq_false_iff_ne.mpr c5; have c5b1 := bne_iff_ne.mpr c5; have H' := Aside0.mk H; clear H; have p4 : 0 ≤ (x4_1 : Int) := od; have q4 : x4_1 < (32 : Int) := od; have hx4 := bt_at (⟨#[48, 49, 50, 51, 52, 53, 54, 55, 56, 57, 65, 66, 67, 68, 69, 70, 48, 49, 50, 51, 52, 53, 54, 55, 56, 57, 97, 98, 99, 100, 101, 102]⟩ : ByteArray) x4_1; replace p4 := eq_true p4; replace q4 := eq_true q4
     go_wp2
     go_roundg k1
     case measure => have := HK1.out; omega
     case rel => exact ⟨(wrap64 (x4_1 + 1)), cl, H', ⟨by have := HK1.out; omega⟩, d0⟩
    rw [if_neg c3] at H; exact absurd H (by simp)
   rw [if_neg c2] at H; have c2b0 := decide_eq_false c2; have c2b09 : decide (x4_1 < (32 : Int)) = false := c2b0; clear c2; obtain rfl := Option.some.inj H
   go_wp2
   go_ret
   exact ⟨cl, d0⟩

end Go.Proofs.YtihabmcaplnbcaaGreatDoor.Fn
namespace Go.Proofs.YtihabmcaplnbcaaGreatDoor.Fn
open Go.RowKit Go.Proofs.YtihabmcaplnbcaaGreatDoorW.PrintWords Go.Proofs.YtihabmcaplnbcaaGreatDoorW.PrintLast Go.Proofs.YtihabmcaplnbcaaGreatDoorW.PrintMore
attribute [local go_sem] max2_int min2_int max_two min_two max_three min_three max_four min_four
set_option linter.unusedVariables false
set_option linter.unusedSimpArgs false

def bulletinref17_Byte.f (k : Nat) (a0 : ByteArray) : Option (Int × Bool) := if (a0.size : Int) = 2 then (if 0 < (a0.size : Int) then ((bulletinref17_Digit.f k (bt a0 0)).bind fun t864 => (if 1 < (a0.size : Int) then ((bulletinref17_Digit.f k (bt a0 1)).bind fun t865 => (if t864 < 0 then (some (0, false)) else (if t865 < 0 then (some (0, false)) else (some ((wrap64 ((wrap64 (16 * t864)) + t865)) % 256, true))))) else (none))) else (none)) else (some (0, false))
attribute [local go_sem] u8_w
set_option maxHeartbeats 8000000 in
set_option maxRecDepth 100000 in
theorem bulletinref17_Byte.calls (k : Nat) (a0 : ByteArray) (r1 : Int) (r2 : Bool) (w : World) (h : bulletinref17_Byte.f k a0 = some (r1, r2)) :
  Calls Tryz.prog 203 #[.string a0] w fun e w' => e = .returned (.tuple #[.int .u8 r1, .bool r2]) ∧ Drawn0 w w' := by
 have H : (if (a0.size : Int) = 2 then (if 0 < (a0.size : Int) then ((bulletinref17_Digit.f k (bt a0 0)).bind fun t864 => (if 1 < (a0.size : Int) then ((bulletinref17_Digit.f k (bt a0 1)).bind fun t865 => (if t864 < 0 then (some (0, false)) else (if t865 < 0 then (some (0, false)) else (some ((wrap64 ((wrap64 (16 * t864)) + t865)) % 256, true))))) else (none))) else (none)) else (some (0, false))) = some (r1, r2) := h; clear h
 by_cases c2 : (a0.size : Int) = 2
 ·rw [if_pos c2] at H; have c2b0 := beq_iff_eq.mpr c2; have c2b1 := bne_eq_false_iff_eq.mpr c2; clear c2
  by_cases c3 : 0 < (a0.size : Int)
  ·rw [if_pos c3] at H; have c3b0 := decide_eq_true c3; have c3b1 : decide (0 < a0.size) = true := decide_eq_true (by omega); clear c3; replace H := Option.bind_eq_some_iff.mp H; obtain ⟨t864, A50, H⟩ := H; have A5 := Aside0.mk A50; clear A50
   by_cases c6 : 1 < (a0.size : Int)
   ·rw [if_pos c6] at H; have c6b0 := decide_eq_true c6; have c6b1 : decide (1 < a0.size) = true := decide_eq_true (by omega); clear c6; replace H := Option.bind_eq_some_iff.mp H; obtain ⟨t865, A80, H⟩ := H; have A8 := Aside0.mk A80; clear A80
    by_cases c9 : t864 < 0
    ·rw [if_pos c9] at H; have c9b0 := decide_eq_true c9; clear c9; simp only [Option.some.injEq, Prod.mk.injEq] at H; obtain ⟨rfl, rfl⟩ := H; have p4 : 0 ≤ (0 : Int) := (by omega)
     have q4 : 0 < a0.size := (by have : (0 : Int) < (a0.size : Int) := od; omega)
     have hx4 : ∀ h : 0 < a0.size, ((a0[0]'h).toNat : Int) = bt a0 0 := bt_at a0 0; clear p4; have qi4 : (0 < (a0.size : Int)) = True := eq_true (od); replace q4 := eq_true q4
     go_enter Tryz.func203, Tryz.ntmps203
     go_wp2_with (first | ((with_reducible refine gate_callee (f := 219) rfl ?_); refine goesL_ (some 11) rfl rfl Tryz.func219 (by kernel_rfl) rfl #[.int .u8 (bt a0 0)] rfl am ?_; (with_reducible refine (bulletinref17_Digit.calls k (bt a0 0) t864 _ A5.out).mono ?_); rintro e w' ⟨rfl, ⟨nd, rfl⟩⟩; refine ⟨_, rfl, ?_⟩; have p7 : 0 ≤ (1 : Int) := (by omega); have q7 : 1 < a0.size := (by have : (1 : Int) < (a0.size : Int) := od; omega); have hx7 : ∀ h : 1 < a0.size, ((a0[1]'h).toNat : Int) = bt a0 1 := bt_at a0 1; clear p7; have qi7 : (1 < (a0.size : Int)) = True := eq_true (od); replace q7 := eq_true q7) | ((with_reducible refine gate_callee (f := 219) rfl ?_); refine goesL_ (some 14) rfl rfl Tryz.func219 (by kernel_rfl) rfl #[.int .u8 (bt a0 1)] rfl am ?_; (with_reducible refine (bulletinref17_Digit.calls k (bt a0 1) t865 _ A8.out).mono ?_); rintro e w' ⟨rfl, ⟨nd, rfl⟩⟩; refine ⟨_, rfl, ?_⟩))
     go_ret2
     exact ⟨cl, d0⟩
    rw [if_neg c9] at H; have c9b0 := decide_eq_false c9; clear c9
    by_cases c10 : t865 < 0
    ·rw [if_pos c10] at H; have c10b0 := decide_eq_true c10; clear c10; simp only [Option.some.injEq, Prod.mk.injEq] at H; obtain ⟨rfl, rfl⟩ := H; have p4 : 0 ≤ (0 : Int) := (by omega)
     have q4 : 0 < a0.size := (by have : (0 : Int) < (a0.size : Int) := od; omega)
     have hx4 : ∀ h : 0 < a0.size, ((a0[0]'h).toNat : Int) = bt a0 0 := bt_at a0 0; clear p4; have qi4 : (0 < (a0.size : Int)) = True := eq_true (od); replace q4 := eq_true q4
     go_enter Tryz.func203, Tryz.ntmps203
     go_wp2_with (first | ((with_reducible refine gate_callee (f := 219) rfl ?_); refine goesL_ (some 11) rfl rfl Tryz.func219 (by kernel_rfl) rfl #[.int .u8 (bt a0 0)] rfl am ?_; (with_reducible refine (bulletinref17_Digit.calls k (bt a0 0) t864 _ A5.out).mono ?_); rintro e w' ⟨rfl, ⟨nd, rfl⟩⟩; refine ⟨_, rfl, ?_⟩; have p7 : 0 ≤ (1 : Int) := (by omega); have q7 : 1 < a0.size := (by have : (1 : Int) < (a0.size : Int) := od; omega); have hx7 : ∀ h : 1 < a0.size, ((a0[1]'h).toNat : Int) = bt a0 1 := bt_at a0 1; clear p7; have qi7 : (1 < (a0.size : Int)) = True := eq_true (od); replace q7 := eq_true q7) | ((with_reducible refine gate_callee (f := 219) rfl ?_); refine goesL_ (some 14) rfl rfl Tryz.func219 (by kernel_rfl) rfl #[.int .u8 (bt a0 1)] rfl am ?_; (with_reducible refine (bulletinref17_Digit.calls k (bt a0 1) t865 _ A8.out).mono ?_); rintro e w' ⟨rfl, ⟨nd, rfl⟩⟩; refine ⟨_, rfl, ?_⟩))
     go_ret2
     exact ⟨cl, d0⟩
    rw [if_neg c10] at H; have c10b0 := decide_eq_false c10; clear c10; simp only [Option.some.injEq, Prod.mk.injEq] at H; obtain ⟨rfl, rfl⟩ := H; have p4 : 0 ≤ (0 : Int) := (by omega)
    have q4 : 0 < a0.size := (by have : (0 : Int) < (a0.size : Int) := od; omega)
    have hx4 : ∀ h : 0 < a0.size, ((a0[0]'h).toNat : Int) = bt a0 0 := bt_at a0 0; clear p4; have qi4 : (0 < (a0.size : Int)) = True := eq_true (od); replace q4 := eq_true q4
    go_enter Tryz.func203, Tryz.ntmps203
    go_wp2_with (first | ((with_reducible refine gate_callee (f := 219) rfl ?_); refine goesL_ (some 11) rfl rfl Tryz.func219 (by kernel_rfl) rfl #[.int .u8 (bt a0 0)] rfl am ?_; (with_reducible refine (bulletinref17_Digit.calls k (bt a0 0) t864 _ A5.out).mono ?_); rintro e w' ⟨rfl, ⟨nd, rfl⟩⟩; refine ⟨_, rfl, ?_⟩; have p7 : 0 ≤ (1 : Int) := (by omega); have q7 : 1 < a0.size := (by have : (1 : Int) < (a0.size : Int) := od; omega); have hx7 : ∀ h : 1 < a0.size, ((a0[1]'h).toNat : Int) = bt a0 1 := bt_at a0 1; clear p7; have qi7 : (1 < (a0.size : Int)) = True := eq_true (od); replace q7 := eq_true q7) | ((with_reducible refine gate_callee (f := 219) rfl ?_); refine goesL_ (some 14) rfl rfl Tryz.func219 (by kernel_rfl) rfl #[.int .u8 (bt a0 1)] rfl am ?_; (with_reducible refine (bulletinref17_Digit.calls k (bt a0 1) t865 _ A8.out).mono ?_); rintro e w' ⟨rfl, ⟨nd, rfl⟩⟩; refine ⟨_, rfl, ?_⟩))
    go_ret2
    exact ⟨cl, d0⟩
   rw [if_neg c6] at H; exact absurd H (by simp)
  rw [if_neg c3] at H; exact absurd H (by simp)
 rw [if_neg c2] at H; have c2b0 := beq_eq_false_iff_ne.mpr c2; have c2b1 := bne_iff_ne.mpr c2; simp only [Option.some.injEq, Prod.mk.injEq] at H; obtain ⟨rfl, rfl⟩ := H
 go_enter Tryz.func203, Tryz.ntmps203
 go_wp2
 go_ret2
 exact ⟨cl, d0⟩

end Go.Proofs.YtihabmcaplnbcaaGreatDoor.Fn
namespace Go.Proofs.YtihabmcaplnbcaaGreatDoor.Fn
open Go.RowKit Go.Proofs.YtihabmcaplnbcaaGreatDoorW.PrintWords Go.Proofs.YtihabmcaplnbcaaGreatDoorW.PrintLast Go.Proofs.YtihabmcaplnbcaaGreatDoorW.PrintMore
attribute [local go_sem] max2_int min2_int max_two min_two max_three min_three max_four min_four
set_option linter.unusedVariables false
set_option linter.unusedSimpArgs false
def bulletinref19_quoted.l0 : Nat → ByteArray → ByteArray → Int → Option (ByteArray × Bool)
 | 0, _, _, _ => none
 | k + 1, x0, x4, x5 => if x5 < (x0.size : Int) then (if 0 ≤ x5 then (if (bt x0 x5) = 95 then (if x4.size + 1 ≤ 9223372036854775807 then (bulletinref19_quoted.l0 k x0 (x4 ++ (⟨#[32]⟩ : ByteArray)) (wrap64 (x5 + 1))) else (none)) else (if (bt x0 x5) = 61 then (if (wrap64 (x5 + 2)) ≥ (x0.size : Int) then (some ((⟨#[]⟩ : ByteArray), false)) else (if 0 ≤ (wrap64 (x5 + 1)) then (if (wrap64 (x5 + 1)) ≤ (wrap64 (x5 + 3)) then (if (wrap64 (x5 + 3)) ≤ (x0.size : Int) then ((bulletinref17_Byte.f k (x0.extract ((wrap64 (x5 + 1)) : Int).toNat ((wrap64 (x5 + 3)) : Int).toNat)).bind fun bt866 => (if bt866.2 = true then ((some (([bt866.1] : List Int) : List Int)).bind fun y868 => (if x4.size + (strOfNums y868).size ≤ 9223372036854775807 then (bulletinref19_quoted.l0 k x0 (x4 ++ (strOfNums y868)) (wrap64 ((wrap64 (x5 + 2)) + 1))) else (none))) else (some ((⟨#[]⟩ : ByteArray), false)))) else (none)) else (none)) else (none))) else (if x5 ≤ (wrap64 (x5 + 1)) then (if (wrap64 (x5 + 1)) ≤ (x0.size : Int) then (if x4.size + (x0.extract (x5 : Int).toNat ((wrap64 (x5 + 1)) : Int).toNat).size ≤ 9223372036854775807 then (bulletinref19_quoted.l0 k x0 (x4 ++ (x0.extract (x5 : Int).toNat ((wrap64 (x5 + 1)) : Int).toNat)) (wrap64 (x5 + 1))) else (none)) else (none)) else (none)))) else (none)) else (some (x4, true))
def bulletinref19_quoted.f (k : Nat) (a0 : ByteArray) : Option (ByteArray × Bool) := bulletinref19_quoted.l0 k a0 (⟨#[]⟩ : ByteArray) 0
set_option maxHeartbeats 8000000 in
set_option maxRecDepth 100000 in
theorem bulletinref19_quoted.calls (k : Nat) (a0 : ByteArray) (r1 : ByteArray) (r2 : Bool) (w : World) (h : bulletinref19_quoted.f k a0 = some (r1, r2)) :
  Calls Tryz.prog 179 #[.string a0] w fun e w' => e = .returned (.tuple #[.string r1, .bool r2]) ∧ Below w.heap.size w w' := by
 have HB := Aside0.mk (Below.refl w.heap.size w); have H : (bulletinref19_quoted.l0 k a0 (⟨#[]⟩ : ByteArray) 0) = some (r1, r2) := h; clear h; have H' := Aside0.mk H; clear H
 go_enter Tryz.func179, Tryz.ntmps179
 go_wp2
 go_loopg [4, 5] k (fun kq v4 v5 w' => ∃ (x4_1 : ByteArray) (x5_1 : Int), v4 = .string x4_1 ∧ v5 = .int .i64 x5_1 ∧ Aside0 (bulletinref19_quoted.l0 kq a0 x4_1 x5_1 = some (r1, r2)) ∧ Aside0 (kq ≤ k) ∧ Aside0 (Below w.heap.size w w'))
 case atStart => exact ⟨((⟨#[]⟩ : ByteArray)), (0), cl, cl, H', ⟨Nat.le_refl _⟩, ⟨bw⟩⟩
 case round =>
  clear H'
  try clear c1
  obtain ⟨x4_1, x5_1, rfl, rfl, HA, HK1, HB⟩ := hrel; cases gk with
  | zero => exact absurd HA.out (by simp [bulletinref19_quoted.l0])
  | succ k1 =>
   have H := HA.out; clear HA; simp only [bulletinref19_quoted.l0] at H
   by_cases c2 : x5_1 < (a0.size : Int)
   ·rw [if_pos c2] at H; have c2b0 := decide_eq_true c2; clear c2
    by_cases c3 : 0 ≤ x5_1
    ·rw [if_pos c3] at H; have c3b0 := decide_eq_true c3; clear c3
     by_cases c5 : (bt a0 x5_1) = 95
     ·rw [if_pos c5] at H; have c5b0 := beq_iff_eq.mpr c5; have c5b1 := bne_eq_false_iff_eq.mpr c5; clear c5
      by_cases c6 : x4_1.size + 1 ≤ 9223372036854775807
      ·rw [if_pos c6] at H; have c6b0 := eq_true c6; have c6b1 := decide_eq_true c6
       try have c6b2 : (9223372036854775807 < x4_1.size + 1) = False := eq_false (Nat.not_lt.2 c6)
       have H' := Aside0.mk H; clear H; have p4 : 0 ≤ (x5_1 : Int) := od; have q4 : x5_1 < (a0.size : Int) := od; have hx4 := bt_at a0 x5_1; replace p4 := eq_true p4; replace q4 := eq_true q4
       go_wp2
       go_roundg k1
       case measure => have := HK1.out; omega
       case rel => exact ⟨(x4_1 ++ (⟨#[32]⟩ : ByteArray)), (wrap64 (x5_1 + 1)), cl, cl, H', ⟨by have := HK1.out; omega⟩, ⟨bw⟩⟩
      rw [if_neg c6] at H; exact absurd H (by simp)
     rw [if_neg c5] at H; have c5b0 := beq_eq_false_iff_ne.mpr c5; have c5b1 := bne_iff_ne.mpr c5
     by_cases c8 : (bt a0 x5_1) = 61
     ·rw [if_pos c8] at H; have c8b0 := beq_iff_eq.mpr c8; have c8b1 := bne_eq_false_iff_eq.mpr c8; clear c8
      by_cases c9 : (wrap64 (x5_1 + 2)) ≥ (a0.size : Int)
      ·rw [if_pos c9] at H; have c9b0 : decide ((a0.size : Int) ≤ (wrap64 (x5_1 + 2))) = true := decide_eq_true c9; clear c9; simp only [Option.some.injEq, Prod.mk.injEq] at H; obtain ⟨rfl, rfl⟩ := H; have p4 : 0 ≤ (x5_1 : Int) := od; have q4 : x5_1 < (a0.size : Int) := od; have hx4 := bt_at a0 x5_1; replace p4 := eq_true p4; replace q4 := eq_true q4; have p7 : 0 ≤ (x5_1 : Int) := od; have q7 : x5_1 < (a0.size : Int) := od; have hx7 := bt_at a0 x5_1; replace p7 := eq_true p7; replace q7 := eq_true q7
       go_wp2
       go_ret2
       exact ⟨ew, bw⟩
      rw [if_neg c9] at H; have c9b0 : decide ((a0.size : Int) ≤ (wrap64 (x5_1 + 2))) = false := decide_eq_false c9; clear c9; obtain ⟨ji10, hji10⟩ : ∃ j_ : Int, (wrap64 (x5_1 + 1)) = j_ := ⟨_, rfl⟩
      replace H : (if 0 ≤ (ji10) then (if (ji10) ≤ (wrap64 (x5_1 + 3)) then (if (wrap64 (x5_1 + 3)) ≤ (a0.size : Int) then ((bulletinref17_Byte.f k1 (a0.extract ((ji10) : Int).toNat ((wrap64 (x5_1 + 3)) : Int).toNat)).bind fun bt866 => (if bt866.2 = true then ((some (([bt866.1] : List Int) : List Int)).bind fun y868 => (if x4_1.size + (strOfNums y868).size ≤ 9223372036854775807 then (bulletinref19_quoted.l0 k1 a0 (x4_1 ++ (strOfNums y868)) (wrap64 ((wrap64 (x5_1 + 2)) + 1))) else (none))) else (some ((⟨#[]⟩ : ByteArray), false)))) else (none)) else (none)) else (none)) = some (r1, r2) := by first | (rw [hji10] at H; exact H) | (simp only [hji10] at H ⊢; exact H)
      have hji10w : (IntKind.i64.wrap (x5_1 + 1)) = ji10 := (i64_w _).trans hji10
      by_cases c11 : 0 ≤ (ji10)
      ·rw [if_pos c11] at H; have c11b0 := eq_true c11; have c11b1 := decide_eq_true c11; clear c11
       by_cases c12 : (ji10) ≤ (wrap64 (x5_1 + 3))
       ·rw [if_pos c12] at H; have c12b0 := eq_true c12; have c12b1 := decide_eq_true c12
        by_cases c13 : (wrap64 (x5_1 + 3)) ≤ (a0.size : Int)
        ·rw [if_pos c13] at H; have c13b0 := eq_true c13; have c13b1 := decide_eq_true c13; replace H := Option.bind_eq_some_iff.mp H; obtain ⟨⟨t866, t867⟩, A140, H⟩ := H; replace H : (if t867 = true then ((some (([t866] : List Int) : List Int)).bind fun y868 => (if x4_1.size + (strOfNums y868).size ≤ 9223372036854775807 then (bulletinref19_quoted.l0 k1 a0 (x4_1 ++ (strOfNums y868)) (wrap64 ((wrap64 (x5_1 + 2)) + 1))) else (none))) else (some ((⟨#[]⟩ : ByteArray), false))) = some (r1, r2) := H; have A14 := Aside0.mk A140; clear A140
         by_cases c15 : t867 = true
         ·subst c15; rw [if_pos rfl] at H; obtain ⟨y868, hy868⟩ : ∃ y_ : List Int, y_ = (([t866] : List Int)) := ⟨_, rfl⟩
          replace H : (if x4_1.size + (strOfNums y868).size ≤ 9223372036854775807 then (bulletinref19_quoted.l0 k1 a0 (x4_1 ++ (strOfNums y868)) (wrap64 ((wrap64 (x5_1 + 2)) + 1))) else (none)) = some (r1, r2) := by first | (rw [hy868]; with_reducible exact H) | (have H2_ := (Option.bind_some _ _).symm.trans H; rw [hy868]; with_reducible exact H2_) | (have H2_ := (Option.bind_some _ _).symm.trans H; with_reducible exact H2_) | with_reducible exact H | (rw [hy868]; exact H) | exact H
          have Ny868 := Aside0.mk hy868; clear hy868
          by_cases c16 : x4_1.size + (strOfNums y868).size ≤ 9223372036854775807
          ·rw [if_pos c16] at H; have c16b0 := eq_true c16; have c16b1 := decide_eq_true c16
           try have c16b2 : (9223372036854775807 < x4_1.size + (strOfNums y868).size) = False := eq_false (Nat.not_lt.2 c16)
           have H' := Aside0.mk H; clear H; have p4 : 0 ≤ (x5_1 : Int) := od; have q4 : x5_1 < (a0.size : Int) := od; have hx4 := bt_at a0 x5_1; replace p4 := eq_true p4; replace q4 := eq_true q4; have p7 : 0 ≤ (x5_1 : Int) := od; have q7 : x5_1 < (a0.size : Int) := od; have hx7 := bt_at a0 x5_1; replace p7 := eq_true p7; replace q7 := eq_true q7
           go_wp2_with (first | ((with_reducible refine gate_callee (f := 203) rfl ?_); refine goesL_ (some 36) rfl rfl Tryz.func203 (by kernel_rfl) rfl #[.string (a0.extract ((ji10) : Int).toNat ((wrap64 (x5_1 + 3)) : Int).toNat)] rfl (by (try simp only [List.map_toArray, List.map_cons, List.map_nil]); first | done | (simp only [hji10]; rfl) | rfl | (simp only [List.length_drop, List.length_take]; rfl)) ?_; (with_reducible refine (bulletinref17_Byte.calls k1 (a0.extract ((ji10) : Int).toNat ((wrap64 (x5_1 + 3)) : Int).toNat) t866 true _ A14.out).mono ?_); rintro e w' ⟨rfl, ⟨nd, rfl⟩⟩; refine ⟨_, rfl, ?_⟩) | ((with_reducible refine gate_dst (N := 43) rfl ?_); refine Kd.R_lit (Kd.int .u8) _ 5 ?hg (N := 43) ?hd (xs := ([t866] : List Int)) (inner := [.int .u8 t866]) (ok := fun _ => True) (okp := fun _ => True) ?hr ?hp (fun _ hk => hk) trivial (Below.refl _ _) (Nat.le_refl _) (by simp) ?_; (case hd => rfl); (case hg => rfl); (case hr => first | (go_simp; done) | (go_simp; rfl)); (case hp => exact (Reps.one (show Kd.M (Kd.int .u8) _ _ _ t866 [.int .u8 t866] from rfl) (Reps.none _ _))); intro v869 w17 ho18 hb hg_ hnew_; clear hg_ hnew_; (first | rw [← Ny868.out] at ho18 | (simp only [Int.reduceToNat] at ho18; rw [← Ny868.out] at ho18)); have n0_ := Aside0.mk (Kd.R_lower ho18 (below_size bw)); have n1_ := Aside0.mk (below_step bw hb); clear HB; have HO870 := n0_; have HB := n1_; clear n0_ n1_; clear hb ho18; have hcv19 := own_string (P := Tryz.prog) Tryz.underlying125 Tryz.underlying5 Tryz.underlying9 (Kd.own_of_R HO870.out)))
           go_roundg k1
           case measure => have := HK1.out; omega
           case rel => exact ⟨(x4_1 ++ (strOfNums y868)), (wrap64 ((wrap64 (x5_1 + 2)) + 1)), cl, cl, H', ⟨by have := HK1.out; omega⟩, ⟨bw⟩⟩
          rw [if_neg c16] at H; exact absurd H (by simp)
         replace c15 := Bool.eq_false_iff.mpr c15; subst c15; rw [if_neg nft] at H; simp only [Option.some.injEq, Prod.mk.injEq] at H; obtain ⟨rfl, rfl⟩ := H; have p4 : 0 ≤ (x5_1 : Int) := od; have q4 : x5_1 < (a0.size : Int) := od; have hx4 := bt_at a0 x5_1; replace p4 := eq_true p4; replace q4 := eq_true q4; have p7 : 0 ≤ (x5_1 : Int) := od; have q7 : x5_1 < (a0.size : Int) := od; have hx7 := bt_at a0 x5_1; replace p7 := eq_true p7; replace q7 := eq_true q7
         go_wp2_with (first | ((with_reducible refine gate_callee (f := 203) rfl ?_); refine goesL_ (some 36) rfl rfl Tryz.func203 (by kernel_rfl) rfl #[.string (a0.extract ((ji10) : Int).toNat ((wrap64 (x5_1 + 3)) : Int).toNat)] rfl (by (try simp only [List.map_toArray, List.map_cons, List.map_nil]); first | done | (simp only [hji10]; rfl) | rfl | (simp only [List.length_drop, List.length_take]; rfl)) ?_; (with_reducible refine (bulletinref17_Byte.calls k1 (a0.extract ((ji10) : Int).toNat ((wrap64 (x5_1 + 3)) : Int).toNat) t866 false _ A14.out).mono ?_); rintro e w' ⟨rfl, ⟨nd, rfl⟩⟩; refine ⟨_, rfl, ?_⟩))
         go_ret2
         exact ⟨by first | rfl | (simp [errW_none, errW_some] <;> rfl) | (simp only [← hji10]; first | rfl | (simp [errW_none, errW_some] <;> rfl)) | (simp [*, errW_none, errW_some] <;> rfl), bw⟩
        rw [if_neg c13] at H; exact absurd H (by simp)
       rw [if_neg c12] at H; exact absurd H (by simp)
      rw [if_neg c11] at H; exact absurd H (by simp)
     rw [if_neg c8] at H; have c8b0 := beq_eq_false_iff_ne.mpr c8; have c8b1 := bne_iff_ne.mpr c8; have c20b0 := eq_true (od : 0 ≤ x5_1)
     by_cases c21 : x5_1 ≤ (wrap64 (x5_1 + 1))
     ·rw [if_pos c21] at H; have c21b0 := eq_true c21; have c21b1 := decide_eq_true c21
      by_cases c22 : (wrap64 (x5_1 + 1)) ≤ (a0.size : Int)
      ·rw [if_pos c22] at H; have c22b0 := eq_true c22; have c22b1 := decide_eq_true c22
       by_cases c23 : x4_1.size + (a0.extract (x5_1 : Int).toNat ((wrap64 (x5_1 + 1)) : Int).toNat).size ≤ 9223372036854775807
       ·rw [if_pos c23] at H; have c23b0 := eq_true c23; have c23b1 := decide_eq_true c23
        try have c23b2 : (9223372036854775807 < x4_1.size + (a0.extract (x5_1 : Int).toNat ((wrap64 (x5_1 + 1)) : Int).toNat).size) = False := eq_false (Nat.not_lt.2 c23)
        try (have c23b3 := c23; simp only [ByteArray.size_append, size_lit, ByteArray.size_extract, List.size_toArray, List.length_cons, List.length_nil, Nat.zero_add, Nat.reduceAdd] at c23b3; have c23b4 := eq_false (Nat.not_lt.2 c23b3))
        have H' := Aside0.mk H; clear H; have p4 : 0 ≤ (x5_1 : Int) := od; have q4 : x5_1 < (a0.size : Int) := od; have hx4 := bt_at a0 x5_1; replace p4 := eq_true p4; replace q4 := eq_true q4; have p7 : 0 ≤ (x5_1 : Int) := od; have q7 : x5_1 < (a0.size : Int) := od; have hx7 := bt_at a0 x5_1; replace p7 := eq_true p7; replace q7 := eq_true q7
        go_wp2
        go_roundg k1
        case measure => have := HK1.out; omega
        case rel => exact ⟨(x4_1 ++ (a0.extract (x5_1 : Int).toNat ((wrap64 (x5_1 + 1)) : Int).toNat)), (wrap64 (x5_1 + 1)), cl, cl, H', ⟨by have := HK1.out; omega⟩, ⟨bw⟩⟩
       rw [if_neg c23] at H; exact absurd H (by simp)
      rw [if_neg c22] at H; exact absurd H (by simp)
     rw [if_neg c21] at H; exact absurd H (by simp)
    rw [if_neg c3] at H; exact absurd H (by simp)
   rw [if_neg c2] at H; have c2b0 := decide_eq_false c2; clear c2; simp only [Option.some.injEq, Prod.mk.injEq] at H; obtain ⟨rfl, rfl⟩ := H
   go_wp2
   go_ret2
   exact ⟨ew, bw⟩

end Go.Proofs.YtihabmcaplnbcaaGreatDoor.Fn
namespace Go.Proofs.YtihabmcaplnbcaaGreatDoor.Fn
open Go.RowKit Go.Proofs.YtihabmcaplnbcaaGreatDoorW.PrintWords Go.Proofs.YtihabmcaplnbcaaGreatDoorW.PrintLast Go.Proofs.YtihabmcaplnbcaaGreatDoorW.PrintMore
attribute [local go_sem] max2_int min2_int max_two min_two max_three min_three max_four min_four
set_option linter.unusedVariables false
set_option linter.unusedSimpArgs false

mutual
def bulletinref19_says.j0 : Nat → ByteArray → ByteArray → List Int → ByteArray → Bool → Option (ByteArray × Bool)
 | 0, _, _, _, _, _ => none
 | k + 1, x1, x6, x7, x8, x20 => if x20 = true then (bulletinref19_says.l0 k x1 x6 x7 0) else (if x6.toList = ([105, 115, 111, 45, 56, 56, 53, 57, 45, 49] : List UInt8) then (bulletinref19_says.l1 k x1 x8 0) else (some ((⟨#[]⟩ : ByteArray), false)))
def bulletinref19_says.l0 : Nat → ByteArray → ByteArray → List Int → Int → Option (ByteArray × Bool)
 | 0, _, _, _, _ => none
 | k + 1, x1, x6, x7, x9 => if x9 < (x7.length : Int) then (if 0 ≤ x9 then (if (rd x7 x9) < 0 then (some ((⟨#[]⟩ : ByteArray), false)) else (if x6.toList = ([117, 115, 45, 97, 115, 99, 105, 105] : List UInt8) then (if (rd x7 x9) > 127 then (some ((⟨#[]⟩ : ByteArray), false)) else (bulletinref19_says.l0 k x1 x6 x7 (wrap64 (x9 + 1)))) else (bulletinref19_says.l0 k x1 x6 x7 (wrap64 (x9 + 1))))) else (none)) else (some (x1, true))
def bulletinref19_says.l1 : Nat → ByteArray → ByteArray → Int → Option (ByteArray × Bool)
 | 0, _, _, _ => none
 | k + 1, x1, x8, x10 => if x10 < (x1.size : Int) then (if 0 ≤ x10 then ((bulletinref06_Write.f (wrap64 (bt x1 x10))).bind fun t889 => (if x8.size + t889.size ≤ 9223372036854775807 then (bulletinref19_says.l1 k x1 (x8 ++ t889) (wrap64 (x10 + 1))) else (none))) else (none)) else (some (x8, true))
end
def bulletinref19_says.f (k : Nat) (a0 : ByteArray) (a1 : ByteArray) : Option (ByteArray × Bool) := (bulletinref06_Fold.f k a0).bind fun t883 => ((bulletinref06_Signs.f k a1).bind fun t884 => (if t883.toList = ([117, 115, 45, 97, 115, 99, 105, 105] : List UInt8) then (bulletinref19_says.j0 k a1 t883 t884 (⟨#[]⟩ : ByteArray) true) else (bulletinref19_says.j0 k a1 t883 t884 (⟨#[]⟩ : ByteArray) (t883.toList == ([117, 116, 102, 45, 56] : List UInt8)))))
set_option maxHeartbeats 8000000 in
set_option maxRecDepth 100000 in
theorem bulletinref19_says.calls (k : Nat) (a0 : ByteArray) (a1 : ByteArray) (r1 : ByteArray) (r2 : Bool) (w : World) (h : bulletinref19_says.f k a0 a1 = some (r1, r2)) :
  Calls Tryz.prog 181 #[.string a0, .string a1] w fun e w' => e = .returned (.tuple #[.string r1, .bool r2]) ∧ Below w.heap.size w w' := by
 have HB := Aside0.mk (Below.refl w.heap.size w); have H : ((bulletinref06_Fold.f k a0).bind fun t883 => ((bulletinref06_Signs.f k a1).bind fun t884 => (if t883.toList = ([117, 115, 45, 97, 115, 99, 105, 105] : List UInt8) then (bulletinref19_says.j0 k a1 t883 t884 (⟨#[]⟩ : ByteArray) true) else (bulletinref19_says.j0 k a1 t883 t884 (⟨#[]⟩ : ByteArray) (t883.toList == ([117, 116, 102, 45, 56] : List UInt8)))))) = some (r1, r2) := h; clear h; replace H := Option.bind_eq_some_iff.mp H; obtain ⟨t883, A30, H⟩ := H; have A3 := Aside0.mk A30; clear A30; replace H := Option.bind_eq_some_iff.mp H; obtain ⟨t884, A40, H⟩ := H; have A4 := Aside0.mk A40; clear A40; have HC5 := Aside0.mk H; clear H
 go_enter Tryz.func181, Tryz.ntmps181
 go_upto_region 4 with (first | ((with_reducible refine gate_callee (f := 49) rfl ?_); refine goesL_ (some 12) rfl rfl Tryz.func49 (by kernel_rfl) rfl #[.string a0] rfl am ?_; (with_reducible refine (bulletinref06_Fold.calls k a0 t883 _ A3.out).mono ?_); rintro e w6 ⟨rfl, hb⟩; refine ⟨_, rfl, ?_⟩; have n0_ := Aside0.mk (below_step bw hb); clear HB; have HB := n0_; clear n0_; (try clear hb); (try clear hb2); (try clear hk); (try clear hi)) | ((with_reducible refine gate_callee (f := 144) rfl ?_); refine goesL_ (some 14) rfl rfl Tryz.func144 (by kernel_rfl) rfl #[.string a1] rfl am ?_; (with_reducible refine (bulletinref06_Signs.calls k a1 t884 _ A4.out).mono ?_); rintro e w7 ⟨v885, rfl, ho0, hb⟩; refine ⟨_, rfl, ?_⟩; have n0_ := Aside0.mk (Kd.R_lower ho0 (below_size bw)); have n1_ := Aside0.mk (below_step bw hb); clear HB; have HO886 := n0_; have HB := n1_; clear n0_ n1_; (try clear hb); (try clear hb2); (try clear hk); (try clear hi); (try clear ho0)))
 (try simp only [Act.put, List.setIfInBounds_toArray, List.set_cons_zero, List.set_cons_succ])
 go_cut [20] (fun v20 wc => ∃ (kq : Nat) (x20_4 : Bool), v20 = .bool x20_4 ∧ Aside0 (bulletinref19_says.j0 kq a1 t883 t884 (⟨#[]⟩ : ByteArray) x20_4 = some (r1, r2)) ∧ Aside0 (kq ≤ k) ∧ Aside0 (Kd.R (Kd.int .i64) 3 wc w.heap.size (fun _ => True) v885 t884) ∧ Aside0 (Below w.heap.size w wc))
 case first =>
  have H := HC5.out; clear HC5
  by_cases c8 : t883.toList = ([117, 115, 45, 97, 115, 99, 105, 105] : List UInt8)
  ·rw [if_pos c8] at H; have c8b0 := beq_iff_eq.mpr c8; have c8b1 := bne_eq_false_iff_eq.mpr c8; clear c8
   (first | rw [c8b0] | (simp only [i64_w, i32_w]; rw [c8b0]) | skip)
   have H' := Aside0.mk H; clear H
   go_wp2
   go_meet
   case rel => exact ⟨_, (true), cl, H', ⟨by first | omega | exact Nat.le_refl _⟩, ⟨ra HO886.out⟩, ⟨bw⟩⟩
  rw [if_neg c8] at H; have c8b0 := beq_eq_false_iff_ne.mpr c8; have c8b1 := bne_iff_ne.mpr c8
  (first | rw [c8b0] | (simp only [i64_w, i32_w]; rw [c8b0]) | skip)
  have H' := Aside0.mk H; clear H
  go_wp2
  go_meet
  case rel => exact ⟨_, ((t883.toList == ([117, 116, 102, 45, 56] : List UInt8))), cl, H', ⟨by first | omega | exact Nat.le_refl _⟩, ⟨ra HO886.out⟩, ⟨bw⟩⟩
 case rest =>
  clear HC5
  try clear c1
  try clear p2
  try clear c4
  try clear c8
  try clear c8b0
  try clear c8b1
  obtain ⟨kq, x20_4, rfl, HA, HJ4, HO_7, HB⟩ := hcut; cases kq with
  | zero => exact absurd HA.out (by simp [bulletinref19_says.j0])
  | succ kj4 =>
   have H := HA.out; clear HA; simp only [bulletinref19_says.j0] at H
   by_cases c9 : x20_4 = true
   ·subst c9; rw [if_pos rfl] at H; have H' := Aside0.mk H; clear H
    go_wp2
    go_loopg [9] kj4 (fun kq v9 w' => ∃ (x9_2 : Int), v9 = .int .i64 x9_2 ∧ Aside0 (bulletinref19_says.l0 kq a1 t883 t884 x9_2 = some (r1, r2)) ∧ Aside0 (kq ≤ kj4) ∧ Aside0 (Kd.R (Kd.int .i64) 3 w' w.heap.size (fun _ => True) v885 t884) ∧ Aside0 (Below w.heap.size w w'))
    case atStart => exact ⟨(0), cl, H', ⟨Nat.le_refl _⟩, ⟨ra HO_7.out⟩, ⟨bw⟩⟩
    case round =>
     clear H'
     try clear c1
     try clear p2
     try clear c4
     try clear c8
     try clear c8b0
     try clear c8b1
     try clear c9
     try clear p2
     obtain ⟨x9_2, rfl, HA, HK2, HO_7, HB⟩ := hrel; cases gk with
     | zero => exact absurd HA.out (by simp [bulletinref19_says.l0])
     | succ k2 =>
      have H := HA.out; clear HA; simp only [bulletinref19_says.l0] at H
      by_cases c10 : x9_2 < (t884.length : Int)
      ·rw [if_pos c10] at H; have c10b0 := decide_eq_true c10; clear c10
       by_cases c11 : 0 ≤ x9_2
       ·rw [if_pos c11] at H; have c11b0 := decide_eq_true c11; clear c11
        by_cases c12 : (rd t884 x9_2) < 0
        ·rw [if_pos c12] at H; have c12b0 := decide_eq_true c12; clear c12; simp only [Option.some.injEq, Prod.mk.injEq] at H; obtain ⟨rfl, rfl⟩ := H; obtain ⟨Ao13, co13, eo13⟩ := Kd.R_slice HO_7.out; subst eo13; have p887 : 0 ≤ (x9_2 : Int) := od; have q887 : x9_2 < (t884.length : Int) := od; obtain ⟨ad887, e887, hx887_0⟩ := Kd.at_int (Kd.R_reads' HO_7.out).2.2 x9_2 p887 q887; cases e887; replace p887 := eq_true p887; replace q887 := eq_true q887
         go_wp2
         go_ret2
         exact ⟨ew, bw⟩
        rw [if_neg c12] at H; have c12b0 := decide_eq_false c12; clear c12
        by_cases c14 : t883.toList = ([117, 115, 45, 97, 115, 99, 105, 105] : List UInt8)
        ·rw [if_pos c14] at H; have c14b0 := beq_iff_eq.mpr c14; have c14b1 := bne_eq_false_iff_eq.mpr c14; clear c14
         by_cases c15 : (rd t884 x9_2) > 127
         ·rw [if_pos c15] at H; have c15b0 : decide (127 < (rd t884 x9_2)) = true := decide_eq_true c15; clear c15; simp only [Option.some.injEq, Prod.mk.injEq] at H; obtain ⟨rfl, rfl⟩ := H; obtain ⟨Ao16, co16, eo16⟩ := Kd.R_slice HO_7.out; subst eo16; have p887 : 0 ≤ (x9_2 : Int) := od; have q887 : x9_2 < (t884.length : Int) := od; obtain ⟨ad887, e887, hx887_0⟩ := Kd.at_int (Kd.R_reads' HO_7.out).2.2 x9_2 p887 q887; cases e887; replace p887 := eq_true p887; replace q887 := eq_true q887; have p888 : 0 ≤ (x9_2 : Int) := od; have q888 : x9_2 < (t884.length : Int) := od; obtain ⟨ad888, e888, hx888_0⟩ := Kd.at_int (Kd.R_reads' HO_7.out).2.2 x9_2 p888 q888; obtain rfl : ad887 = ad888 := (by injection e888)
          replace p888 := eq_true p888; replace q888 := eq_true q888
          go_wp2
          go_ret2
          exact ⟨ew, bw⟩
         rw [if_neg c15] at H; have c15b0 : decide (127 < (rd t884 x9_2)) = false := decide_eq_false c15; clear c15; have H' := Aside0.mk H; clear H; obtain ⟨Ao17, co17, eo17⟩ := Kd.R_slice HO_7.out; subst eo17; have p887 : 0 ≤ (x9_2 : Int) := od; have q887 : x9_2 < (t884.length : Int) := od; obtain ⟨ad887, e887, hx887_0⟩ := Kd.at_int (Kd.R_reads' HO_7.out).2.2 x9_2 p887 q887; cases e887; replace p887 := eq_true p887; replace q887 := eq_true q887; have p888 : 0 ≤ (x9_2 : Int) := od; have q888 : x9_2 < (t884.length : Int) := od; obtain ⟨ad888, e888, hx888_0⟩ := Kd.at_int (Kd.R_reads' HO_7.out).2.2 x9_2 p888 q888; obtain rfl : ad887 = ad888 := (by injection e888)
         replace p888 := eq_true p888; replace q888 := eq_true q888
         go_wp2
         go_roundg k2
         case measure => have := HJ4.out; have := HK2.out; omega
         case rel => exact ⟨(wrap64 (x9_2 + 1)), cl, H', ⟨by have := HJ4.out; have := HK2.out; omega⟩, ⟨ra HO_7.out⟩, ⟨bw⟩⟩
        rw [if_neg c14] at H; have c14b0 := beq_eq_false_iff_ne.mpr c14; have c14b1 := bne_iff_ne.mpr c14; have H' := Aside0.mk H; clear H; obtain ⟨Ao18, co18, eo18⟩ := Kd.R_slice HO_7.out; subst eo18; have p887 : 0 ≤ (x9_2 : Int) := od; have q887 : x9_2 < (t884.length : Int) := od; obtain ⟨ad887, e887, hx887_0⟩ := Kd.at_int (Kd.R_reads' HO_7.out).2.2 x9_2 p887 q887; cases e887; replace p887 := eq_true p887; replace q887 := eq_true q887
        go_wp2
        go_roundg k2
        case measure => have := HJ4.out; have := HK2.out; omega
        case rel => exact ⟨(wrap64 (x9_2 + 1)), cl, H', ⟨by have := HJ4.out; have := HK2.out; omega⟩, ⟨ra HO_7.out⟩, ⟨bw⟩⟩
       rw [if_neg c11] at H; exact absurd H (by simp)
      rw [if_neg c10] at H; have c10b0 := decide_eq_false c10; clear c10; simp only [Option.some.injEq, Prod.mk.injEq] at H; obtain ⟨rfl, rfl⟩ := H; obtain ⟨Ao19, co19, eo19⟩ := Kd.R_slice HO_7.out; subst eo19
      go_wp2
      go_ret2
      exact ⟨ew, bw⟩
   replace c9 := Bool.eq_false_iff.mpr c9; subst c9; rw [if_neg nft] at H
   by_cases c20 : t883.toList = ([105, 115, 111, 45, 56, 56, 53, 57, 45, 49] : List UInt8)
   ·rw [if_pos c20] at H; have c20b0 := beq_iff_eq.mpr c20; have c20b1 := bne_eq_false_iff_eq.mpr c20; clear c20; have H' := Aside0.mk H; clear H
    go_wp2
    go_loopg [8, 10] kj4 (fun kq v8 v10 w' => ∃ (x8_2 : ByteArray) (x10_2 : Int), v8 = .string x8_2 ∧ v10 = .int .i64 x10_2 ∧ Aside0 (bulletinref19_says.l1 kq a1 x8_2 x10_2 = some (r1, r2)) ∧ Aside0 (kq ≤ kj4) ∧ Aside0 (Below w.heap.size w w'))
    case atStart => exact ⟨((⟨#[]⟩ : ByteArray)), (0), cl, cl, H', ⟨Nat.le_refl _⟩, ⟨bw⟩⟩
    case round =>
     clear H'
     try clear c1
     try clear c2
     try clear p2
     try clear c4
     try clear p6
     try clear c8
     try clear c8b0
     try clear c8b1
     try clear p8
     try clear q8
     try clear hx8
     try clear c9
     try clear c10
     try clear c10b0
     try clear c11
     try clear c11b0
     try clear c12
     try clear c12b0
     try clear c14
     try clear c14b0
     try clear c14b1
     try clear c15
     try clear c15b0
     try clear c18
     try clear c20
     try clear c20b0
     try clear c20b1
     try clear hx887_0
     try clear hx888_0
     try clear p2
     try clear p887
     try clear p888
     try clear q887
     try clear q888
     obtain ⟨x8_2, x10_2, rfl, rfl, HA, HK2, HB⟩ := hrel; cases gk with
     | zero => exact absurd HA.out (by simp [bulletinref19_says.l1])
     | succ k2 =>
      have H := HA.out; clear HA; simp only [bulletinref19_says.l1] at H
      by_cases c21 : x10_2 < (a1.size : Int)
      ·rw [if_pos c21] at H; have c21b0 := decide_eq_true c21; clear c21
       by_cases c22 : 0 ≤ x10_2
       ·rw [if_pos c22] at H; have c22b0 := decide_eq_true c22; clear c22; replace H := Option.bind_eq_some_iff.mp H; obtain ⟨t889, A240, H⟩ := H; have A24 := Aside0.mk A240; clear A240
        by_cases c25 : x8_2.size + t889.size ≤ 9223372036854775807
        ·rw [if_pos c25] at H; have c25b0 := eq_true c25; have c25b1 := decide_eq_true c25
         try have c25b2 : (9223372036854775807 < x8_2.size + t889.size) = False := eq_false (Nat.not_lt.2 c25)
         have H' := Aside0.mk H; clear H; have p23 : 0 ≤ (x10_2 : Int) := od; have q23 : x10_2 < (a1.size : Int) := od; have hx23 := bt_at a1 x10_2; replace p23 := eq_true p23; replace q23 := eq_true q23
         go_wp2_with (first | ((with_reducible refine gate_callee (f := 145) rfl ?_); refine goesL_ (some 57) rfl rfl Tryz.func145 (by kernel_rfl) rfl #[.int .i64 (wrap64 (bt a1 x10_2))] rfl am ?_; (with_reducible refine (bulletinref06_Write.calls (wrap64 (bt a1 x10_2)) t889 _ A24.out).mono ?_); rintro e w26 ⟨rfl, hb⟩; refine ⟨_, rfl, ?_⟩; have n0_ := Aside0.mk (below_step bw hb); clear HB; have HB := n0_; clear n0_; (try clear hb); (try clear hb2); (try clear hk); (try clear hi)))
         go_roundg k2
         case measure => have := HJ4.out; have := HK2.out; omega
         case rel => exact ⟨(x8_2 ++ t889), (wrap64 (x10_2 + 1)), cl, cl, H', ⟨by have := HJ4.out; have := HK2.out; omega⟩, ⟨bw⟩⟩
        rw [if_neg c25] at H; exact absurd H (by simp)
       rw [if_neg c22] at H; exact absurd H (by simp)
      rw [if_neg c21] at H; have c21b0 := decide_eq_false c21; clear c21; simp only [Option.some.injEq, Prod.mk.injEq] at H; obtain ⟨rfl, rfl⟩ := H
      go_wp2
      go_ret2
      exact ⟨ew, bw⟩
   rw [if_neg c20] at H; have c20b0 := beq_eq_false_iff_ne.mpr c20; have c20b1 := bne_iff_ne.mpr c20; simp only [Option.some.injEq, Prod.mk.injEq] at H; obtain ⟨rfl, rfl⟩ := H
   go_wp2
   go_ret2
   exact ⟨ew, bw⟩

end Go.Proofs.YtihabmcaplnbcaaGreatDoor.Fn
namespace Go.Proofs.YtihabmcaplnbcaaGreatDoor.Fn
open Go.RowKit Go.Proofs.YtihabmcaplnbcaaGreatDoorW.PrintWords Go.Proofs.YtihabmcaplnbcaaGreatDoorW.PrintLast Go.Proofs.YtihabmcaplnbcaaGreatDoorW.PrintMore
attribute [local go_sem] max2_int min2_int max_two min_two max_three min_three max_four min_four
set_option linter.unusedVariables false
set_option linter.unusedSimpArgs false
def bulletinref19_upTo.l0 : Nat → ByteArray → Int → Int → Option (Int)
 | 0, _, _, _ => none
 | k + 1, x0, x1, x5 => if (wrap64 (x1 + x5)) < (x0.size : Int) then (if 0 ≤ (wrap64 (x1 + x5)) then (if (bt x0 (wrap64 (x1 + x5))) ≥ 33 then (if (bt x0 (wrap64 (x1 + x5))) ≤ 126 then (if (bt x0 (wrap64 (x1 + x5))) = 63 then (some x5) else (bulletinref19_upTo.l0 k x0 x1 (wrap64 (x5 + 1)))) else (some x5)) else (some x5)) else (none)) else (some x5)
def bulletinref19_upTo.f (k : Nat) (a0 : ByteArray) (a1 : Int) : Option (Int) := bulletinref19_upTo.l0 k a0 a1 0
set_option maxHeartbeats 8000000 in
set_option maxRecDepth 100000 in
theorem bulletinref19_upTo.calls (k : Nat) (a0 : ByteArray) (a1 : Int) (r : Int) (w : World) (h : bulletinref19_upTo.f k a0 a1 = some r) :
  Calls Tryz.prog 178 #[.string a0, .int .i64 a1] w fun e w' => e = .returned (.int .i64 r) ∧ Drawn0 w w' := by
 have H : (bulletinref19_upTo.l0 k a0 a1 0) = some r := h; clear h; have H' := Aside0.mk H; clear H
 go_enter Tryz.func178, Tryz.ntmps178
 go_wp2
 go_loopg [5] k (fun kq v5 w' => ∃ (x5_1 : Int), v5 = .int .i64 x5_1 ∧ Aside0 (bulletinref19_upTo.l0 kq a0 a1 x5_1 = some r) ∧ Aside0 (kq ≤ k) ∧ Drawn0 w w')
 case atStart => exact ⟨(0), cl, H', ⟨Nat.le_refl _⟩, d0⟩
 case round =>
  clear H'
  try clear c1
  try clear p2
  obtain ⟨x5_1, rfl, HA, HK1, ⟨m1, rfl⟩⟩ := hrel; cases gk with
  | zero => exact absurd HA.out (by simp [bulletinref19_upTo.l0])
  | succ k1 =>
   have H := HA.out; clear HA; simp only [bulletinref19_upTo.l0] at H
   by_cases c3 : (wrap64 (a1 + x5_1)) < (a0.size : Int)
   ·rw [if_pos c3] at H; have c3b0 := decide_eq_true c3; clear c3; obtain ⟨ji4, hji4⟩ : ∃ j_ : Int, (wrap64 (a1 + x5_1)) = j_ := ⟨_, rfl⟩
    replace H : (if 0 ≤ (ji4) then (if (bt a0 (ji4)) ≥ 33 then (if (bt a0 (ji4)) ≤ 126 then (if (bt a0 (ji4)) = 63 then (some x5_1) else (bulletinref19_upTo.l0 k1 a0 a1 (wrap64 (x5_1 + 1)))) else (some x5_1)) else (some x5_1)) else (none)) = some r := by first | (rw [hji4] at H; exact H) | (simp only [hji4] at H ⊢; exact H)
    (try rw [hji4] at c3b0)
    have hji4w : (IntKind.i64.wrap (a1 + x5_1)) = ji4 := (i64_w _).trans hji4
    by_cases c5 : 0 ≤ (ji4)
    ·rw [if_pos c5] at H; have c5b0 := decide_eq_true c5; clear c5
     by_cases c7 : (bt a0 (ji4)) ≥ 33
     ·rw [if_pos c7] at H; have c7b0 : decide (33 ≤ (bt a0 (ji4))) = true := decide_eq_true c7; clear c7
      by_cases c9 : (bt a0 (ji4)) ≤ 126
      ·rw [if_pos c9] at H; have c9b0 := decide_eq_true c9; clear c9
       by_cases c11 : (bt a0 (ji4)) = 63
       ·rw [if_pos c11] at H; have c11b0 := beq_iff_eq.mpr c11; have c11b1 := bne_eq_false_iff_eq.mpr c11; clear c11; obtain rfl := Option.some.inj H; have p6 : 0 ≤ ((ji4) : Int) := od; have q6 : (ji4) < (a0.size : Int) := od; have hx6 := bt_at a0 (ji4); replace p6 := eq_true p6; replace q6 := eq_true q6; have p8 : 0 ≤ ((ji4) : Int) := od; have q8 : (ji4) < (a0.size : Int) := od; have hx8 := bt_at a0 (ji4); replace p8 := eq_true p8; replace q8 := eq_true q8; have p10 : 0 ≤ ((ji4) : Int) := od; have q10 : (ji4) < (a0.size : Int) := od; have hx10 := bt_at a0 (ji4); replace p10 := eq_true p10; replace q10 := eq_true q10
        go_wp2
        go_ret
        exact ⟨by first | rfl | (simp; done) | (simp only [← hji4] <;> (first | rfl | simp)) | (simp [*]; done) | (simp [nil_ne]; done) | (simp [u8_w, i64w_]; done) | (simp [size_lit]; done) | (simp; unfold wrap64; omega), d0⟩
       rw [if_neg c11] at H; have c11b0 := beq_eq_false_iff_ne.mpr c11; have c11b1 := bne_iff_ne.mpr c11; have H' := Aside0.mk H; clear H; have p6 : 0 ≤ ((ji4) : Int) := od; have q6 : (ji4) < (a0.size : Int) := od; have hx6 := bt_at a0 (ji4); replace p6 := eq_true p6; replace q6 := eq_true q6; have p8 : 0 ≤ ((ji4) : Int) := od; have q8 : (ji4) < (a0.size : Int) := od; have hx8 := bt_at a0 (ji4); replace p8 := eq_true p8; replace q8 := eq_true q8; have p10 : 0 ≤ ((ji4) : Int) := od; have q10 : (ji4) < (a0.size : Int) := od; have hx10 := bt_at a0 (ji4); replace p10 := eq_true p10; replace q10 := eq_true q10
       go_wp2
       go_roundg k1
       case measure => have := HK1.out; omega
       case rel => exact ⟨(wrap64 (x5_1 + 1)), cl, H', ⟨by have := HK1.out; omega⟩, d0⟩
      rw [if_neg c9] at H; have c9b0 := decide_eq_false c9; clear c9; obtain rfl := Option.some.inj H; have p6 : 0 ≤ ((ji4) : Int) := od; have q6 : (ji4) < (a0.size : Int) := od; have hx6 := bt_at a0 (ji4); replace p6 := eq_true p6; replace q6 := eq_true q6; have p8 : 0 ≤ ((ji4) : Int) := od; have q8 : (ji4) < (a0.size : Int) := od; have hx8 := bt_at a0 (ji4); replace p8 := eq_true p8; replace q8 := eq_true q8
      go_wp2
      go_ret
      exact ⟨by first | rfl | (simp; done) | (simp only [← hji4] <;> (first | rfl | simp)) | (simp [*]; done) | (simp [nil_ne]; done) | (simp [u8_w, i64w_]; done) | (simp [size_lit]; done) | (simp; unfold wrap64; omega), d0⟩
     rw [if_neg c7] at H; have c7b0 : decide (33 ≤ (bt a0 (ji4))) = false := decide_eq_false c7; clear c7; obtain rfl := Option.some.inj H; have p6 : 0 ≤ ((ji4) : Int) := od; have q6 : (ji4) < (a0.size : Int) := od; have hx6 := bt_at a0 (ji4); replace p6 := eq_true p6; replace q6 := eq_true q6
     go_wp2
     go_ret
     exact ⟨by first | rfl | (simp; done) | (simp only [← hji4] <;> (first | rfl | simp)) | (simp [*]; done) | (simp [nil_ne]; done) | (simp [u8_w, i64w_]; done) | (simp [size_lit]; done) | (simp; unfold wrap64; omega), d0⟩
    rw [if_neg c5] at H; exact absurd H (by simp)
   rw [if_neg c3] at H; have c3b0 := decide_eq_false c3; clear c3; obtain rfl := Option.some.inj H
   go_wp2
   go_ret
   exact ⟨cl, d0⟩

end Go.Proofs.YtihabmcaplnbcaaGreatDoor.Fn
namespace Go.Proofs.YtihabmcaplnbcaaGreatDoor.Fn
open Go.RowKit Go.Proofs.YtihabmcaplnbcaaGreatDoorW.PrintWords Go.Proofs.YtihabmcaplnbcaaGreatDoorW.PrintLast Go.Proofs.YtihabmcaplnbcaaGreatDoorW.PrintMore
attribute [local go_sem] max2_int min2_int max_two min_two max_three min_three max_four min_four
set_option linter.unusedVariables false
set_option linter.unusedSimpArgs false

mutual
def bulletinref19_Word.j0 : Nat → ByteArray → Int → Bool → Option (ByteArray × Int)
 | 0, _, _, _ => none
 | k + 1, x0, x1, x28 => if x28 = true then (some ((⟨#[]⟩ : ByteArray), 0)) else ((bulletinref19_upTo.f k x0 (wrap64 (x1 + 2))).bind fun t890 => (if t890 = 0 then (bulletinref19_Word.j1 k x0 x1 (wrap64 ((wrap64 (x1 + 2)) + t890)) true) else (if (wrap64 ((wrap64 ((wrap64 (x1 + 2)) + t890)) + 3)) > (x0.size : Int) then (bulletinref19_Word.j1 k x0 x1 (wrap64 ((wrap64 (x1 + 2)) + t890)) true) else (if 0 ≤ (wrap64 ((wrap64 (x1 + 2)) + t890)) then (if (wrap64 ((wrap64 (x1 + 2)) + t890)) < (x0.size : Int) then (if (bt x0 (wrap64 ((wrap64 (x1 + 2)) + t890))) = 63 then (if 0 ≤ (wrap64 ((wrap64 ((wrap64 (x1 + 2)) + t890)) + 2)) then (if (wrap64 ((wrap64 ((wrap64 (x1 + 2)) + t890)) + 2)) < (x0.size : Int) then (bulletinref19_Word.j1 k x0 x1 (wrap64 ((wrap64 (x1 + 2)) + t890)) ((bt x0 (wrap64 ((wrap64 ((wrap64 (x1 + 2)) + t890)) + 2))) != 63)) else (none)) else (none)) else (bulletinref19_Word.j1 k x0 x1 (wrap64 ((wrap64 (x1 + 2)) + t890)) true)) else (none)) else (none)))))
def bulletinref19_Word.j1 : Nat → ByteArray → Int → Int → Bool → Option (ByteArray × Int)
 | 0, _, _, _, _ => none
 | k + 1, x0, x1, x7, x58 => if x58 = true then (some ((⟨#[]⟩ : ByteArray), 0)) else (if 0 ≤ (wrap64 (x7 + 1)) then (if (wrap64 (x7 + 1)) < (x0.size : Int) then ((bulletinref19_upTo.f k x0 (wrap64 (x7 + 3))).bind fun t891 => (if (wrap64 ((wrap64 ((wrap64 (x7 + 3)) + t891)) + 2)) > (x0.size : Int) then (bulletinref19_Word.j2 k x0 x1 x7 (bt x0 (wrap64 (x7 + 1))) (wrap64 ((wrap64 (x7 + 3)) + t891)) true) else (if 0 ≤ (wrap64 ((wrap64 (x7 + 3)) + t891)) then (if (wrap64 ((wrap64 (x7 + 3)) + t891)) ≤ (wrap64 ((wrap64 ((wrap64 (x7 + 3)) + t891)) + 2)) then (if (wrap64 ((wrap64 ((wrap64 (x7 + 3)) + t891)) + 2)) ≤ (x0.size : Int) then (if (x0.extract ((wrap64 ((wrap64 (x7 + 3)) + t891)) : Int).toNat ((wrap64 ((wrap64 ((wrap64 (x7 + 3)) + t891)) + 2)) : Int).toNat).toList = ([63, 61] : List UInt8) then (bulletinref19_Word.j2 k x0 x1 x7 (bt x0 (wrap64 (x7 + 1))) (wrap64 ((wrap64 (x7 + 3)) + t891)) (decide ((wrap64 ((wrap64 ((wrap64 ((wrap64 (x7 + 3)) + t891)) + 2)) - x1)) > 75))) else (bulletinref19_Word.j2 k x0 x1 x7 (bt x0 (wrap64 (x7 + 1))) (wrap64 ((wrap64 (x7 + 3)) + t891)) true)) else (none)) else (none)) else (none)))) else (none)) else (none))
def bulletinref19_Word.j2 : Nat → ByteArray → Int → Int → Int → Int → Bool → Option (ByteArray × Int)
 | 0, _, _, _, _, _, _ => none
 | k + 1, x0, x1, x7, x8, x10, x90 => if x90 = true then (some ((⟨#[]⟩ : ByteArray), 0)) else (if 0 ≤ (wrap64 (x7 + 3)) then (if (wrap64 (x7 + 3)) ≤ x10 then (if x10 ≤ (x0.size : Int) then (if x8 = 113 then (bulletinref19_Word.j3 k x0 x1 x7 x8 x10 (x0.extract ((wrap64 (x7 + 3)) : Int).toNat (x10 : Int).toNat) (⟨#[]⟩ : ByteArray) false true) else (bulletinref19_Word.j3 k x0 x1 x7 x8 x10 (x0.extract ((wrap64 (x7 + 3)) : Int).toNat (x10 : Int).toNat) (⟨#[]⟩ : ByteArray) false (x8 == 81))) else (none)) else (none)) else (none))
def bulletinref19_Word.j3 : Nat → ByteArray → Int → Int → Int → Int → ByteArray → ByteArray → Bool → Bool → Option (ByteArray × Int)
 | 0, _, _, _, _, _, _, _, _, _ => none
 | k + 1, x0, x1, x7, x8, x10, x11, x12, x13, x101 => if x101 = true then ((bulletinref19_quoted.f k x11).bind fun bt892 => (bulletinref19_Word.j4 k x0 x1 x7 x8 x10 x11 bt892.1 bt892.2)) else (bulletinref19_Word.j4 k x0 x1 x7 x8 x10 x11 x12 x13)
def bulletinref19_Word.j4 : Nat → ByteArray → Int → Int → Int → Int → ByteArray → ByteArray → Bool → Option (ByteArray × Int)
 | 0, _, _, _, _, _, _, _, _ => none
 | k + 1, x0, x1, x7, x8, x10, x11, x12, x13 => if x8 = 98 then (bulletinref19_Word.j5 k x0 x1 x7 x10 x11 x12 x13 true) else (bulletinref19_Word.j5 k x0 x1 x7 x10 x11 x12 x13 (x8 == 66))
def bulletinref19_Word.j5 : Nat → ByteArray → Int → Int → Int → ByteArray → ByteArray → Bool → Bool → Option (ByteArray × Int)
 | 0, _, _, _, _, _, _, _, _ => none
 | k + 1, x0, x1, x7, x10, x11, x12, x13, x112 => if x112 = true then ((bulletinref18_Decode.f k x11).bind fun bt894 => (bulletinref19_Word.j6 k x0 x1 x7 x10 bt894.1 bt894.2)) else (bulletinref19_Word.j6 k x0 x1 x7 x10 x12 x13)
def bulletinref19_Word.j6 : Nat → ByteArray → Int → Int → Int → ByteArray → Bool → Option (ByteArray × Int)
 | 0, _, _, _, _, _, _ => none
 | k + 1, x0, x1, x7, x10, x12, x13 => if x13 = true then (if 0 ≤ (wrap64 (x1 + 2)) then (if (wrap64 (x1 + 2)) ≤ x7 then (if x7 ≤ (x0.size : Int) then ((bulletinref19_says.f k (x0.extract ((wrap64 (x1 + 2)) : Int).toNat (x7 : Int).toNat) x12).bind fun bt896 => (if bt896.2 = true then (some (bt896.1, wrap64 ((wrap64 (x10 + 2)) - x1))) else (some ((⟨#[]⟩ : ByteArray), 0)))) else (none)) else (none)) else (none)) else (some ((⟨#[]⟩ : ByteArray), 0))
end
def bulletinref19_Word.f (k : Nat) (a0 : ByteArray) (a1 : Int) : Option (ByteArray × Int) := if (wrap64 (a1 + 2)) > (a0.size : Int) then (bulletinref19_Word.j0 k a0 a1 true) else (if 0 ≤ a1 then (if a1 ≤ (wrap64 (a1 + 2)) then (if (wrap64 (a1 + 2)) ≤ (a0.size : Int) then (bulletinref19_Word.j0 k a0 a1 ((a0.extract (a1 : Int).toNat ((wrap64 (a1 + 2)) : Int).toNat).toList != ([61, 63] : List UInt8))) else (none)) else (none)) else (none))
set_option maxHeartbeats 8000000 in
set_option maxRecDepth 100000 in
theorem bulletinref19_Word.calls (k : Nat) (a0 : ByteArray) (a1 : Int) (r1 : ByteArray) (r2 : Int) (w : World) (h : bulletinref19_Word.f k a0 a1 = some (r1, r2)) :
  Calls Tryz.prog 146 #[.string a0, .int .i64 a1] w fun e w' => e = .returned (.tuple #[.string r1, .int .i64 r2]) ∧ Below w.heap.size w w' := by
 have HB := Aside0.mk (Below.refl w.heap.size w); have H : (if (wrap64 (a1 + 2)) > (a0.size : Int) then (bulletinref19_Word.j0 k a0 a1 true) else (if 0 ≤ a1 then (if a1 ≤ (wrap64 (a1 + 2)) then (if (wrap64 (a1 + 2)) ≤ (a0.size : Int) then (bulletinref19_Word.j0 k a0 a1 ((a0.extract (a1 : Int).toNat ((wrap64 (a1 + 2)) : Int).toNat).toList != ([61, 63] : List UInt8))) else (none)) else (none)) else (none))) = some (r1, r2) := h; clear h; have HC3 := Aside0.mk H; clear H
 go_enter Tryz.func146, Tryz.ntmps146
 go_upto_region 1 with (fail)
 go_cut [28] (fun v28 wc => ∃ (kq : Nat) (x28_2 : Bool), v28 = .bool x28_2 ∧ Aside0 (bulletinref19_Word.j0 kq a0 a1 x28_2 = some (r1, r2)) ∧ Aside0 (kq ≤ k) ∧ Aside0 (Below w.heap.size w wc))
 case first =>
  have H := HC3.out; clear HC3
  by_cases c4 : (wrap64 (a1 + 2)) > (a0.size : Int)
  ·rw [if_pos c4] at H; have c4b0 : decide ((a0.size : Int) < (wrap64 (a1 + 2))) = true := decide_eq_true c4; clear c4
   (first | rw [c4b0] | (simp only [i64_w, i32_w]; rw [c4b0]) | skip)
   have H' := Aside0.mk H; clear H
   go_wp2
   go_meet
   case rel => exact ⟨_, (true), cl, (by first | exact H' | (rw [hji13]; exact H') | (rw [hji18]; exact H') | (rw [hji23]; exact H') | (rw [hji30]; exact H') | (rw [hji36]; exact H') | (rw [hji53]; exact H')), ⟨by first | omega | exact Nat.le_refl _⟩, ⟨bw⟩⟩
  rw [if_neg c4] at H; have c4b0 : decide ((a0.size : Int) < (wrap64 (a1 + 2))) = false := decide_eq_false c4; clear c4
  (first | rw [c4b0] | (simp only [i64_w, i32_w]; rw [c4b0]) | skip)
  by_cases c5 : 0 ≤ a1
  ·rw [if_pos c5] at H; have c5b0 := eq_true c5; have c5b1 := decide_eq_true c5; clear c5
   by_cases c6 : a1 ≤ (wrap64 (a1 + 2))
   ·rw [if_pos c6] at H; have c6b0 := eq_true c6; have c6b1 := decide_eq_true c6
    by_cases c7 : (wrap64 (a1 + 2)) ≤ (a0.size : Int)
    ·rw [if_pos c7] at H; have c7b0 := eq_true c7; have c7b1 := decide_eq_true c7; have H' := Aside0.mk H; clear H
     as_aux_lemma =>
      go_wp2
      go_meet
      case rel => exact ⟨_, (((a0.extract (a1 : Int).toNat ((wrap64 (a1 + 2)) : Int).toNat).toList != ([61, 63] : List UInt8))), cl, (by first | exact H' | (rw [hji13]; exact H') | (rw [hji18]; exact H') | (rw [hji23]; exact H') | (rw [hji30]; exact H') | (rw [hji36]; exact H') | (rw [hji53]; exact H')), ⟨by first | omega | exact Nat.le_refl _⟩, ⟨bw⟩⟩
    rw [if_neg c7] at H; exact absurd H (by simp)
   rw [if_neg c6] at H; exact absurd H (by simp)
  rw [if_neg c5] at H; exact absurd H (by simp)
 case rest =>
  clear HC3
  try clear c1
  try clear p2
  try clear c4
  try clear c4b0
  try clear c5
  try clear c5b0
  try clear c5b1
  try clear c6
  try clear c6b0
  try clear c6b1
  try clear p6
  try clear c7
  try clear c7b0
  try clear c7b1
  obtain ⟨kq, x28_2, rfl, HA, HJ2, HB⟩ := hcut; cases kq with
  | zero => exact absurd HA.out (by simp [bulletinref19_Word.j0])
  | succ kj2 =>
   have H := HA.out; clear HA; simp only [bulletinref19_Word.j0] at H
   by_cases c8 : x28_2 = true
   ·subst c8; rw [if_pos rfl] at H; simp only [Option.some.injEq, Prod.mk.injEq] at H; obtain ⟨rfl, rfl⟩ := H
    as_aux_lemma =>
     go_wp2
     go_ret2
     exact ⟨ew, bw⟩
   replace c8 := Bool.eq_false_iff.mpr c8; subst c8; rw [if_neg nft] at H; replace H := Option.bind_eq_some_iff.mp H; obtain ⟨t890, A90, H⟩ := H; have A9 := Aside0.mk A90; clear A90; have HC10 := Aside0.mk H; clear H
   go_upto_region 5 with (first | ((with_reducible refine gate_callee (f := 178) rfl ?_); refine goesL_ (some 32) rfl rfl Tryz.func178 (by kernel_rfl) rfl #[.string a0, .int .i64 (wrap64 (a1 + 2))] rfl am ?_; (with_reducible refine (bulletinref19_upTo.calls kj2 a0 (wrap64 (a1 + 2)) t890 _ A9.out).mono ?_); rintro e w' ⟨rfl, ⟨nd, rfl⟩⟩; refine ⟨_, rfl, ?_⟩))
   (try simp only [Act.put, List.setIfInBounds_toArray, List.set_cons_zero, List.set_cons_succ])
   go_cut [58] (fun v58 wc => ∃ (kq : Nat) (x58_9 : Bool), v58 = .bool x58_9 ∧ Aside0 (bulletinref19_Word.j1 kq a0 a1 (wrap64 ((wrap64 (a1 + 2)) + t890)) x58_9 = some (r1, r2)) ∧ Aside0 (kq ≤ kj2) ∧ Aside0 (Below w.heap.size w wc))
   case first =>
    have H := HC10.out; clear HC10
    by_cases c11 : t890 = 0
    ·rw [if_pos c11] at H; have c11b0 := beq_iff_eq.mpr c11; have c11b1 := bne_eq_false_iff_eq.mpr c11; clear c11
     (first | rw [c11b0] | (simp only [i64_w, i32_w]; rw [c11b0]) | skip)
     have H' := Aside0.mk H; clear H
     as_aux_lemma =>
      go_wp2
      go_meet
      case rel => exact ⟨_, (true), cl, (by first | exact H' | (rw [hji13]; exact H') | (rw [hji18]; exact H') | (rw [hji23]; exact H') | (rw [hji30]; exact H') | (rw [hji36]; exact H') | (rw [hji53]; exact H')), ⟨by have := HJ2.out; first | omega | exact Nat.le_refl _⟩, ⟨bw⟩⟩
    rw [if_neg c11] at H; have c11b0 := beq_eq_false_iff_ne.mpr c11; have c11b1 := bne_iff_ne.mpr c11
    (first | rw [c11b0] | (simp only [i64_w, i32_w]; rw [c11b0]) | skip)
    by_cases c12 : (wrap64 ((wrap64 ((wrap64 (a1 + 2)) + t890)) + 3)) > (a0.size : Int)
    ·rw [if_pos c12] at H; have c12b0 : decide ((a0.size : Int) < (wrap64 ((wrap64 ((wrap64 (a1 + 2)) + t890)) + 3))) = true := decide_eq_true c12; clear c12; have H' := Aside0.mk H; clear H
     as_aux_lemma =>
      go_wp2
      go_meet
      case rel => exact ⟨_, (true), cl, (by first | exact H' | (rw [hji13]; exact H') | (rw [hji18]; exact H') | (rw [hji23]; exact H') | (rw [hji30]; exact H') | (rw [hji36]; exact H') | (rw [hji53]; exact H')), ⟨by have := HJ2.out; first | omega | exact Nat.le_refl _⟩, ⟨bw⟩⟩
    rw [if_neg c12] at H; have c12b0 : decide ((a0.size : Int) < (wrap64 ((wrap64 ((wrap64 (a1 + 2)) + t890)) + 3))) = false := decide_eq_false c12; clear c12; obtain ⟨ji13, hji13⟩ : ∃ j_ : Int, (wrap64 ((wrap64 (a1 + 2)) + t890)) = j_ := ⟨_, rfl⟩
    replace H : (if 0 ≤ (ji13) then (if (ji13) < (a0.size : Int) then (if (bt a0 (ji13)) = 63 then (if 0 ≤ (wrap64 ((ji13) + 2)) then (if (wrap64 ((ji13) + 2)) < (a0.size : Int) then (bulletinref19_Word.j1 kj2 a0 a1 ji13 ((bt a0 (wrap64 ((ji13) + 2))) != 63)) else (none)) else (none)) else (bulletinref19_Word.j1 kj2 a0 a1 ji13 true)) else (none)) else (none)) = some (r1, r2) := by first | (rw [hji13] at H; exact H) | (simp only [hji13] at H ⊢; exact H)
    (try rw [hji13] at c12b0)
    have hji13w : (IntKind.i64.wrap ((wrap64 (a1 + 2)) + t890)) = ji13 := (i64_w _).trans hji13
    by_cases c14 : 0 ≤ (ji13)
    ·rw [if_pos c14] at H; have c14b0 := decide_eq_true c14; clear c14
     by_cases c15 : (ji13) < (a0.size : Int)
     ·rw [if_pos c15] at H; have c15b0 := decide_eq_true c15; clear c15
      by_cases c17 : (bt a0 (ji13)) = 63
      ·rw [if_pos c17] at H; have c17b0 := beq_iff_eq.mpr c17; have c17b1 := bne_eq_false_iff_eq.mpr c17; clear c17; obtain ⟨ji18, hji18⟩ : ∃ j_ : Int, (wrap64 ((ji13) + 2)) = j_ := ⟨_, rfl⟩
       replace H : (if 0 ≤ (ji18) then (if (ji18) < (a0.size : Int) then (bulletinref19_Word.j1 kj2 a0 a1 ji13 ((bt a0 (ji18)) != 63)) else (none)) else (none)) = some (r1, r2) := by first | (rw [hji18] at H; exact H) | (simp only [hji18] at H ⊢; exact H)
       have hji18w : (IntKind.i64.wrap ((ji13) + 2)) = ji18 := (i64_w _).trans hji18
       by_cases c19 : 0 ≤ (ji18)
       ·rw [if_pos c19] at H; have c19b0 := decide_eq_true c19; clear c19
        by_cases c20 : (ji18) < (a0.size : Int)
        ·rw [if_pos c20] at H; have c20b0 := decide_eq_true c20; clear c20; have H' := Aside0.mk H; clear H; have p16 : 0 ≤ ((ji13) : Int) := od; have q16 : (ji13) < (a0.size : Int) := od; have hx16 := bt_at a0 (ji13); replace p16 := eq_true p16; replace q16 := eq_true q16; have p21 : 0 ≤ ((ji18) : Int) := od; have q21 : (ji18) < (a0.size : Int) := od; have hx21 := bt_at a0 (ji18); replace p21 := eq_true p21; replace q21 := eq_true q21
         as_aux_lemma =>
          go_wp2
          go_meet
          case rel => exact ⟨_, (((bt a0 (ji18)) != 63)), (by first | rfl | (simp; done) | (simp only [← hji18] <;> (first | rfl | simp)) | (simp [*]; done) | (simp [nil_ne]; done) | (simp [u8_w, i64w_]; done) | (simp [size_lit]; done) | (simp; unfold wrap64; omega)), (by first | exact H' | (rw [hji13]; exact H') | (rw [hji18]; exact H') | (rw [hji23]; exact H') | (rw [hji30]; exact H') | (rw [hji36]; exact H') | (rw [hji53]; exact H')), ⟨by have := HJ2.out; first | omega | exact Nat.le_refl _⟩, ⟨bw⟩⟩
        rw [if_neg c20] at H; exact absurd H (by simp)
       rw [if_neg c19] at H; exact absurd H (by simp)
      rw [if_neg c17] at H; have c17b0 := beq_eq_false_iff_ne.mpr c17; have c17b1 := bne_iff_ne.mpr c17; have H' := Aside0.mk H; clear H; have p16 : 0 ≤ ((ji13) : Int) := od; have q16 : (ji13) < (a0.size : Int) := od; have hx16 := bt_at a0 (ji13); replace p16 := eq_true p16; replace q16 := eq_true q16
      as_aux_lemma =>
       go_wp2
       go_meet
       case rel => exact ⟨_, (true), cl, (by first | exact H' | (rw [hji13]; exact H') | (rw [hji18]; exact H') | (rw [hji23]; exact H') | (rw [hji30]; exact H') | (rw [hji36]; exact H') | (rw [hji53]; exact H')), ⟨by have := HJ2.out; first | omega | exact Nat.le_refl _⟩, ⟨bw⟩⟩
     rw [if_neg c15] at H; exact absurd H (by simp)
    rw [if_neg c14] at H; exact absurd H (by simp)
   case rest =>
    clear HC10
    try clear c1
    try clear p1
    try clear q1
    try clear hx1
    try clear c2
    try clear p2
    try clear q2
    try clear hx2
    try clear c4
    try clear c4b0
    try clear c5
    try clear c5b0
    try clear c5b1
    try clear c6
    try clear c6b0
    try clear c6b1
    try clear p6
    try clear c7
    try clear c7b0
    try clear c7b1
    try clear c8
    try clear c11
    try clear c11b0
    try clear c11b1
    try clear c12
    try clear c12b0
    try clear c14
    try clear c14b0
    try clear c15
    try clear c15b0
    try clear p16
    try clear q16
    try clear hx16
    try clear c17
    try clear c17b0
    try clear c17b1
    try clear c19
    try clear c19b0
    try clear c20
    try clear c20b0
    try clear p21
    try clear q21
    try clear hx21
    try clear p16
    try clear p2
    try clear p21
    try clear p6
    try clear q16
    try clear q21
    obtain ⟨kq, x58_9, rfl, HA, HJ9, HB⟩ := hcut; cases kq with
    | zero => exact absurd HA.out (by simp [bulletinref19_Word.j1])
    | succ kj9 =>
     have H := HA.out; clear HA; simp only [bulletinref19_Word.j1] at H
     by_cases c22 : x58_9 = true
     ·subst c22; rw [if_pos rfl] at H; simp only [Option.some.injEq, Prod.mk.injEq] at H; obtain ⟨rfl, rfl⟩ := H
      as_aux_lemma =>
       go_wp2
       go_ret2
       exact ⟨ew, bw⟩
     replace c22 := Bool.eq_false_iff.mpr c22; subst c22; rw [if_neg nft] at H; obtain ⟨ji23, hji23⟩ : ∃ j_ : Int, (wrap64 ((wrap64 ((wrap64 (a1 + 2)) + t890)) + 1)) = j_ := ⟨_, rfl⟩
     replace H : (if 0 ≤ (ji23) then (if (ji23) < (a0.size : Int) then ((bulletinref19_upTo.f kj9 a0 (wrap64 ((wrap64 ((wrap64 (a1 + 2)) + t890)) + 3))).bind fun t891 => (if (wrap64 ((wrap64 ((wrap64 ((wrap64 ((wrap64 (a1 + 2)) + t890)) + 3)) + t891)) + 2)) > (a0.size : Int) then (bulletinref19_Word.j2 kj9 a0 a1 (wrap64 ((wrap64 (a1 + 2)) + t890)) (bt a0 (ji23)) (wrap64 ((wrap64 ((wrap64 ((wrap64 (a1 + 2)) + t890)) + 3)) + t891)) true) else (if 0 ≤ (wrap64 ((wrap64 ((wrap64 ((wrap64 (a1 + 2)) + t890)) + 3)) + t891)) then (if (wrap64 ((wrap64 ((wrap64 ((wrap64 (a1 + 2)) + t890)) + 3)) + t891)) ≤ (wrap64 ((wrap64 ((wrap64 ((wrap64 ((wrap64 (a1 + 2)) + t890)) + 3)) + t891)) + 2)) then (if (wrap64 ((wrap64 ((wrap64 ((wrap64 ((wrap64 (a1 + 2)) + t890)) + 3)) + t891)) + 2)) ≤ (a0.size : Int) then (if (a0.extract ((wrap64 ((wrap64 ((wrap64 ((wrap64 (a1 + 2)) + t890)) + 3)) + t891)) : Int).toNat ((wrap64 ((wrap64 ((wrap64 ((wrap64 ((wrap64 (a1 + 2)) + t890)) + 3)) + t891)) + 2)) : Int).toNat).toList = ([63, 61] : List UInt8) then (bulletinref19_Word.j2 kj9 a0 a1 (wrap64 ((wrap64 (a1 + 2)) + t890)) (bt a0 (ji23)) (wrap64 ((wrap64 ((wrap64 ((wrap64 (a1 + 2)) + t890)) + 3)) + t891)) (decide ((wrap64 ((wrap64 ((wrap64 ((wrap64 ((wrap64 ((wrap64 (a1 + 2)) + t890)) + 3)) + t891)) + 2)) - a1)) > 75))) else (bulletinref19_Word.j2 kj9 a0 a1 (wrap64 ((wrap64 (a1 + 2)) + t890)) (bt a0 (ji23)) (wrap64 ((wrap64 ((wrap64 ((wrap64 (a1 + 2)) + t890)) + 3)) + t891)) true)) else (none)) else (none)) else (none)))) else (none)) else (none)) = some (r1, r2) := by first | (rw [hji23] at H; exact H) | (simp only [hji23] at H ⊢; exact H)
     have hji23w : (IntKind.i64.wrap ((wrap64 ((wrap64 (a1 + 2)) + t890)) + 1)) = ji23 := (i64_w _).trans hji23
     by_cases c24 : 0 ≤ (ji23)
     ·rw [if_pos c24] at H; have c24b0 := decide_eq_true c24; clear c24
      by_cases c25 : (ji23) < (a0.size : Int)
      ·rw [if_pos c25] at H; have c25b0 := decide_eq_true c25; clear c25; replace H := Option.bind_eq_some_iff.mp H; obtain ⟨t891, A270, H⟩ := H; have A27 := Aside0.mk A270; clear A270; have HC28 := Aside0.mk H; clear H; have p26 : 0 ≤ ((ji23) : Int) := od; have q26 : (ji23) < (a0.size : Int) := od; have hx26 := bt_at a0 (ji23); replace p26 := eq_true p26; replace q26 := eq_true q26
       go_upto_region 10 with (first | ((with_reducible refine gate_callee (f := 178) rfl ?_); refine goesL_ (some 66) rfl rfl Tryz.func178 (by kernel_rfl) rfl #[.string a0, .int .i64 (wrap64 ((wrap64 ((wrap64 (a1 + 2)) + t890)) + 3))] rfl am ?_; (with_reducible refine (bulletinref19_upTo.calls kj9 a0 (wrap64 ((wrap64 ((wrap64 (a1 + 2)) + t890)) + 3)) t891 _ A27.out).mono ?_); rintro e w' ⟨rfl, ⟨nd, rfl⟩⟩; refine ⟨_, rfl, ?_⟩))
       (try simp only [Act.put, List.setIfInBounds_toArray, List.set_cons_zero, List.set_cons_succ])
       go_cut [90] (fun v90 wc => ∃ (kq : Nat) (x90_27 : Bool), v90 = .bool x90_27 ∧ Aside0 (bulletinref19_Word.j2 kq a0 a1 (wrap64 ((wrap64 (a1 + 2)) + t890)) (bt a0 (ji23)) (wrap64 ((wrap64 ((wrap64 ((wrap64 (a1 + 2)) + t890)) + 3)) + t891)) x90_27 = some (r1, r2)) ∧ Aside0 (kq ≤ kj9) ∧ Aside0 (Below w.heap.size w wc))
       case first =>
        have H := HC28.out; clear HC28
        by_cases c29 : (wrap64 ((wrap64 ((wrap64 ((wrap64 ((wrap64 (a1 + 2)) + t890)) + 3)) + t891)) + 2)) > (a0.size : Int)
        ·rw [if_pos c29] at H; have c29b0 : decide ((a0.size : Int) < (wrap64 ((wrap64 ((wrap64 ((wrap64 ((wrap64 (a1 + 2)) + t890)) + 3)) + t891)) + 2))) = true := decide_eq_true c29; clear c29
         (first | rw [c29b0] | (simp only [i64_w, i32_w]; rw [c29b0]) | skip)
         have H' := Aside0.mk H; clear H
         as_aux_lemma =>
          go_wp2
          go_meet
          case rel => exact ⟨_, (true), cl, (by first | exact H' | (rw [hji13]; exact H') | (rw [hji18]; exact H') | (rw [hji23]; exact H') | (rw [hji30]; exact H') | (rw [hji36]; exact H') | (rw [hji53]; exact H')), ⟨by have := HJ2.out; have := HJ9.out; first | omega | exact Nat.le_refl _⟩, ⟨bw⟩⟩
        rw [if_neg c29] at H; have c29b0 : decide ((a0.size : Int) < (wrap64 ((wrap64 ((wrap64 ((wrap64 ((wrap64 (a1 + 2)) + t890)) + 3)) + t891)) + 2))) = false := decide_eq_false c29; clear c29
        (first | rw [c29b0] | (simp only [i64_w, i32_w]; rw [c29b0]) | skip)
        obtain ⟨ji30, hji30⟩ : ∃ j_ : Int, (wrap64 ((wrap64 ((wrap64 ((wrap64 (a1 + 2)) + t890)) + 3)) + t891)) = j_ := ⟨_, rfl⟩
        replace H : (if 0 ≤ (ji30) then (if (ji30) ≤ (wrap64 ((ji30) + 2)) then (if (wrap64 ((ji30) + 2)) ≤ (a0.size : Int) then (if (a0.extract ((ji30) : Int).toNat ((wrap64 ((ji30) + 2)) : Int).toNat).toList = ([63, 61] : List UInt8) then (bulletinref19_Word.j2 kj9 a0 a1 (wrap64 ((wrap64 (a1 + 2)) + t890)) (bt a0 (ji23)) ji30 (decide ((wrap64 ((wrap64 ((ji30) + 2)) - a1)) > 75))) else (bulletinref19_Word.j2 kj9 a0 a1 (wrap64 ((wrap64 (a1 + 2)) + t890)) (bt a0 (ji23)) ji30 true)) else (none)) else (none)) else (none)) = some (r1, r2) := by first | (rw [hji30] at H; exact H) | (simp only [hji30] at H ⊢; exact H)
        (try rw [hji30] at c29b0)
        have hji30w : (IntKind.i64.wrap ((wrap64 ((wrap64 ((wrap64 (a1 + 2)) + t890)) + 3)) + t891)) = ji30 := (i64_w _).trans hji30
        by_cases c31 : 0 ≤ (ji30)
        ·rw [if_pos c31] at H; have c31b0 := eq_true c31; have c31b1 := decide_eq_true c31; clear c31
         by_cases c32 : (ji30) ≤ (wrap64 ((ji30) + 2))
         ·rw [if_pos c32] at H; have c32b0 := eq_true c32; have c32b1 := decide_eq_true c32
          by_cases c33 : (wrap64 ((ji30) + 2)) ≤ (a0.size : Int)
          ·rw [if_pos c33] at H; have c33b0 := eq_true c33; have c33b1 := decide_eq_true c33
           by_cases c34 : (a0.extract ((ji30) : Int).toNat ((wrap64 ((ji30) + 2)) : Int).toNat).toList = ([63, 61] : List UInt8)
           ·rw [if_pos c34] at H; have c34b0 := beq_iff_eq.mpr c34; have c34b1 := bne_eq_false_iff_eq.mpr c34; clear c34; have H' := Aside0.mk H; clear H
            as_aux_lemma =>
             go_wp2
             go_meet
             case rel => exact ⟨_, (decide ((wrap64 ((wrap64 ((ji30) + 2)) - a1)) > 75)), (by first | rfl | (simp; done) | (simp only [← hji30] <;> (first | rfl | simp)) | (simp [*]; done) | (simp [nil_ne]; done) | (simp [u8_w, i64w_]; done) | (simp [size_lit]; done) | (simp; unfold wrap64; omega)), (by first | exact H' | (rw [hji13]; exact H') | (rw [hji18]; exact H') | (rw [hji23]; exact H') | (rw [hji30]; exact H') | (rw [hji36]; exact H') | (rw [hji53]; exact H')), ⟨by have := HJ2.out; have := HJ9.out; first | omega | exact Nat.le_refl _⟩, ⟨bw⟩⟩
           rw [if_neg c34] at H; have c34b0 := beq_eq_false_iff_ne.mpr c34; have c34b1 := bne_iff_ne.mpr c34; have H' := Aside0.mk H; clear H
           as_aux_lemma =>
            go_wp2
            go_meet
            case rel => exact ⟨_, (true), cl, (by first | exact H' | (rw [hji13]; exact H') | (rw [hji18]; exact H') | (rw [hji23]; exact H') | (rw [hji30]; exact H') | (rw [hji36]; exact H') | (rw [hji53]; exact H')), ⟨by have := HJ2.out; have := HJ9.out; first | omega | exact Nat.le_refl _⟩, ⟨bw⟩⟩
          rw [if_neg c33] at H; exact absurd H (by simp)
         rw [if_neg c32] at H; exact absurd H (by simp)
        rw [if_neg c31] at H; exact absurd H (by simp)
       case rest =>
        clear HC28
        try clear c1
        try clear p1
        try clear q1
        try clear hx1
        try clear c2
        try clear p2
        try clear q2
        try clear hx2
        try clear c3
        try clear c4
        try clear c4b0
        try clear c5
        try clear c5b0
        try clear c5b1
        try clear c6
        try clear c6b0
        try clear c6b1
        try clear p6
        try clear c7
        try clear c7b0
        try clear c7b1
        try clear c8
        try clear c11
        try clear c11b0
        try clear c11b1
        try clear c12
        try clear c12b0
        try clear c14
        try clear c14b0
        try clear c15
        try clear c15b0
        try clear p16
        try clear q16
        try clear hx16
        try clear c17
        try clear c17b0
        try clear c17b1
        try clear c19
        try clear c19b0
        try clear c20
        try clear c20b0
        try clear p21
        try clear q21
        try clear hx21
        try clear c22
        try clear c24
        try clear c24b0
        try clear c25
        try clear c25b0
        try clear p26
        try clear q26
        try clear hx26
        try clear c29
        try clear c29b0
        try clear c31
        try clear c31b0
        try clear c31b1
        try clear c32
        try clear c32b0
        try clear c32b1
        try clear c33
        try clear c33b0
        try clear c33b1
        try clear c34
        try clear c34b0
        try clear c34b1
        try clear p1
        try clear p16
        try clear p2
        try clear p21
        try clear p26
        try clear p6
        try clear q1
        try clear q16
        try clear q2
        try clear q21
        try clear q26
        obtain ⟨kq, x90_27, rfl, HA, HJ27, HB⟩ := hcut; cases kq with
        | zero => exact absurd HA.out (by simp [bulletinref19_Word.j2])
        | succ kj27 =>
         have H := HA.out; clear HA; simp only [bulletinref19_Word.j2] at H
         by_cases c35 : x90_27 = true
         ·subst c35; rw [if_pos rfl] at H; simp only [Option.some.injEq, Prod.mk.injEq] at H; obtain ⟨rfl, rfl⟩ := H
          as_aux_lemma =>
           go_wp2
           go_ret2
           exact ⟨by first | rfl | (simp [errW_none, errW_some] <;> rfl) | (simp only [← hji23]; first | rfl | (simp [errW_none, errW_some] <;> rfl)) | (simp [*, errW_none, errW_some] <;> rfl), bw⟩
         replace c35 := Bool.eq_false_iff.mpr c35; subst c35; rw [if_neg nft] at H; obtain ⟨ji36, hji36⟩ : ∃ j_ : Int, (wrap64 ((wrap64 ((wrap64 (a1 + 2)) + t890)) + 3)) = j_ := ⟨_, rfl⟩
         replace H : (if 0 ≤ (ji36) then (if (ji36) ≤ (wrap64 ((ji36) + t891)) then (if (wrap64 ((ji36) + t891)) ≤ (a0.size : Int) then (if (bt a0 (ji23)) = 113 then (bulletinref19_Word.j3 kj27 a0 a1 (wrap64 ((wrap64 (a1 + 2)) + t890)) (bt a0 (ji23)) (wrap64 ((ji36) + t891)) (a0.extract ((ji36) : Int).toNat ((wrap64 ((ji36) + t891)) : Int).toNat) (⟨#[]⟩ : ByteArray) false true) else (bulletinref19_Word.j3 kj27 a0 a1 (wrap64 ((wrap64 (a1 + 2)) + t890)) (bt a0 (ji23)) (wrap64 ((ji36) + t891)) (a0.extract ((ji36) : Int).toNat ((wrap64 ((ji36) + t891)) : Int).toNat) (⟨#[]⟩ : ByteArray) false ((bt a0 (ji23)) == 81))) else (none)) else (none)) else (none)) = some (r1, r2) := by first | (rw [hji36] at H; exact H) | (simp only [hji36] at H ⊢; exact H)
         have hji36w : (IntKind.i64.wrap ((wrap64 ((wrap64 (a1 + 2)) + t890)) + 3)) = ji36 := (i64_w _).trans hji36
         by_cases c37 : 0 ≤ (ji36)
         ·rw [if_pos c37] at H; have c37b0 := eq_true c37; have c37b1 := decide_eq_true c37; clear c37
          by_cases c38 : (ji36) ≤ (wrap64 ((ji36) + t891))
          ·rw [if_pos c38] at H; have c38b0 := eq_true c38; have c38b1 := decide_eq_true c38
           by_cases c39 : (wrap64 ((ji36) + t891)) ≤ (a0.size : Int)
           ·rw [if_pos c39] at H; have c39b0 := eq_true c39; have c39b1 := decide_eq_true c39; have HC40 := Aside0.mk H; clear H
            go_upto_region 15 with (fail)
            go_cut [101] (fun v101 wc => ∃ (kq : Nat) (x101_39 : Bool), v101 = .bool x101_39 ∧ Aside0 (bulletinref19_Word.j3 kq a0 a1 (wrap64 ((wrap64 (a1 + 2)) + t890)) (bt a0 (ji23)) (wrap64 ((ji36) + t891)) (a0.extract ((ji36) : Int).toNat ((wrap64 ((ji36) + t891)) : Int).toNat) (⟨#[]⟩ : ByteArray) false x101_39 = some (r1, r2)) ∧ Aside0 (kq ≤ kj27) ∧ Aside0 (Below w.heap.size w wc))
            case first =>
             have H := HC40.out; clear HC40
             by_cases c41 : (bt a0 (ji23)) = 113
             ·rw [if_pos c41] at H; have c41b0 := beq_iff_eq.mpr c41; have c41b1 := bne_eq_false_iff_eq.mpr c41; clear c41
              (first | rw [c41b0] | (simp only [i64_w, i32_w]; rw [c41b0]) | skip)
              have H' := Aside0.mk H; clear H
              as_aux_lemma =>
               go_wp2
               go_meet
               case rel => exact ⟨_, (true), cl, (by first | exact H' | (rw [hji13]; exact H') | (rw [hji18]; exact H') | (rw [hji23]; exact H') | (rw [hji30]; exact H') | (rw [hji36]; exact H') | (rw [hji53]; exact H')), ⟨by have := HJ2.out; have := HJ9.out; have := HJ27.out; first | omega | exact Nat.le_refl _⟩, ⟨bw⟩⟩
             rw [if_neg c41] at H; have c41b0 := beq_eq_false_iff_ne.mpr c41; have c41b1 := bne_iff_ne.mpr c41
             (first | rw [c41b0] | (simp only [i64_w, i32_w]; rw [c41b0]) | skip)
             have H' := Aside0.mk H; clear H
             as_aux_lemma =>
              go_wp2
              go_meet
              case rel => exact ⟨_, (((bt a0 (ji23)) == 81)), (by first | rfl | (simp; done) | (simp only [← hji23] <;> (first | rfl | simp)) | (simp [*]; done) | (simp [nil_ne]; done) | (simp [u8_w, i64w_]; done) | (simp [size_lit]; done) | (simp; unfold wrap64; omega)), (by first | exact H' | (rw [hji13]; exact H') | (rw [hji18]; exact H') | (rw [hji23]; exact H') | (rw [hji30]; exact H') | (rw [hji36]; exact H') | (rw [hji53]; exact H')), ⟨by have := HJ2.out; have := HJ9.out; have := HJ27.out; first | omega | exact Nat.le_refl _⟩, ⟨bw⟩⟩
            case rest =>
             clear HC40
             try clear c1
             try clear p1
             try clear q1
             try clear hx1
             try clear c2
             try clear p2
             try clear q2
             try clear hx2
             try clear c3
             try clear c4
             try clear c4b0
             try clear c5
             try clear c5b0
             try clear c5b1
             try clear c6
             try clear c6b0
             try clear c6b1
             try clear p6
             try clear c7
             try clear c7b0
             try clear c7b1
             try clear c8
             try clear c11
             try clear c11b0
             try clear c11b1
             try clear c12
             try clear c12b0
             try clear c14
             try clear c14b0
             try clear c15
             try clear c15b0
             try clear p16
             try clear q16
             try clear hx16
             try clear c17
             try clear c17b0
             try clear c17b1
             try clear c19
             try clear c19b0
             try clear c20
             try clear c20b0
             try clear p21
             try clear q21
             try clear hx21
             try clear c22
             try clear c24
             try clear c24b0
             try clear c25
             try clear c25b0
             try clear p26
             try clear q26
             try clear hx26
             try clear c29
             try clear c29b0
             try clear c31
             try clear c31b0
             try clear c31b1
             try clear c32
             try clear c32b0
             try clear c32b1
             try clear c33
             try clear c33b0
             try clear c33b1
             try clear c34
             try clear c34b0
             try clear c34b1
             try clear c35
             try clear c37
             try clear c37b0
             try clear c37b1
             try clear c38
             try clear c38b0
             try clear c38b1
             try clear c39
             try clear c39b0
             try clear c39b1
             try clear c41
             try clear c41b0
             try clear c41b1
             try clear p1
             try clear p16
             try clear p2
             try clear p21
             try clear p26
             try clear p6
             try clear q1
             try clear q16
             try clear q2
             try clear q21
             try clear q26
             obtain ⟨kq, x101_39, rfl, HA, HJ39, HB⟩ := hcut; cases kq with
             | zero => exact absurd HA.out (by simp [bulletinref19_Word.j3])
             | succ kj39 =>
              have H := HA.out; clear HA; simp only [bulletinref19_Word.j3] at H; have HC42 := Aside0.mk H; clear H
              go_upto_if 101 with (fail)
              go_cut [12, 13] (fun v12 v13 wc => ∃ (kq : Nat) (x12_41 : ByteArray) (x13_41 : Bool), v12 = .string x12_41 ∧ v13 = .bool x13_41 ∧ Aside0 (bulletinref19_Word.j4 kq a0 a1 (wrap64 ((wrap64 (a1 + 2)) + t890)) (bt a0 (ji23)) (wrap64 ((ji36) + t891)) (a0.extract ((ji36) : Int).toNat ((wrap64 ((ji36) + t891)) : Int).toNat) x12_41 x13_41 = some (r1, r2)) ∧ Aside0 (kq ≤ kj39) ∧ Aside0 (Below w.heap.size w wc))
              case first =>
               have H := HC42.out; clear HC42
               by_cases c43 : x101_39 = true
               ·subst c43; rw [if_pos rfl] at H; replace H := Option.bind_eq_some_iff.mp H; obtain ⟨⟨t892, t893⟩, A440, H⟩ := H; replace H : (bulletinref19_Word.j4 kj39 a0 a1 (wrap64 ((wrap64 (a1 + 2)) + t890)) (bt a0 (ji23)) (wrap64 ((ji36) + t891)) (a0.extract ((ji36) : Int).toNat ((wrap64 ((ji36) + t891)) : Int).toNat) t892 t893) = some (r1, r2) := H; have A44 := Aside0.mk A440; clear A440; have H' := Aside0.mk H; clear H
                as_aux_lemma =>
                 go_wp2_with (first | ((with_reducible refine gate_callee (f := 179) rfl ?_); refine goesL_ (some 104) rfl rfl Tryz.func179 (by kernel_rfl) rfl #[.string (a0.extract ((ji36) : Int).toNat ((wrap64 ((ji36) + t891)) : Int).toNat)] rfl (by (try simp only [List.map_toArray, List.map_cons, List.map_nil]); first | done | (simp only [hji36]; rfl) | rfl | (simp only [List.length_drop, List.length_take]; rfl)) ?_; (with_reducible refine (bulletinref19_quoted.calls kj39 (a0.extract ((ji36) : Int).toNat ((wrap64 ((ji36) + t891)) : Int).toNat) t892 t893 _ A44.out).mono ?_); rintro e w45 ⟨rfl, hb⟩; refine ⟨_, rfl, ?_⟩; have n0_ := Aside0.mk (below_step bw hb); clear HB; have HB := n0_; clear n0_; (try clear hb); (try clear hb2); (try clear hk); (try clear hi)))
                 refine Met.intro ?_
                 go_step
                 (try rw [hji36])
                 (repeat apply Exists.intro)
                 refine ⟨?rel, rfl⟩
                 case rel => exact ⟨_, (t892), (t893), cl, cl, (by first | exact H' | (rw [hji13]; exact H') | (rw [hji18]; exact H') | (rw [hji23]; exact H') | (rw [hji30]; exact H') | (rw [hji36]; exact H') | (rw [hji53]; exact H')), ⟨by have := HJ2.out; have := HJ9.out; have := HJ27.out; have := HJ39.out; first | omega | exact Nat.le_refl _⟩, ⟨bw⟩⟩
               replace c43 := Bool.eq_false_iff.mpr c43; subst c43; rw [if_neg nft] at H; have H' := Aside0.mk H; clear H
               as_aux_lemma =>
                go_wp2
                go_meet
                case rel => exact ⟨_, ((⟨#[]⟩ : ByteArray)), (false), cl, cl, (by first | exact H' | (rw [hji13]; exact H') | (rw [hji18]; exact H') | (rw [hji23]; exact H') | (rw [hji30]; exact H') | (rw [hji36]; exact H') | (rw [hji53]; exact H')), ⟨by have := HJ2.out; have := HJ9.out; have := HJ27.out; have := HJ39.out; first | omega | exact Nat.le_refl _⟩, ⟨bw⟩⟩
              case rest =>
               clear HC42
               try clear c1
               try clear p1
               try clear q1
               try clear hx1
               try clear c2
               try clear p2
               try clear q2
               try clear hx2
               try clear c3
               try clear c4
               try clear c4b0
               try clear c5
               try clear c5b0
               try clear c5b1
               try clear c6
               try clear c6b0
               try clear c6b1
               try clear p6
               try clear c7
               try clear c7b0
               try clear c7b1
               try clear c8
               try clear c11
               try clear c11b0
               try clear c11b1
               try clear c12
               try clear c12b0
               try clear c14
               try clear c14b0
               try clear c15
               try clear c15b0
               try clear p16
               try clear q16
               try clear hx16
               try clear c17
               try clear c17b0
               try clear c17b1
               try clear c19
               try clear c19b0
               try clear c20
               try clear c20b0
               try clear p21
               try clear q21
               try clear hx21
               try clear c22
               try clear c24
               try clear c24b0
               try clear c25
               try clear c25b0
               try clear p26
               try clear q26
               try clear hx26
               try clear c29
               try clear c29b0
               try clear c31
               try clear c31b0
               try clear c31b1
               try clear c32
               try clear c32b0
               try clear c32b1
               try clear c33
               try clear c33b0
               try clear c33b1
               try clear c34
               try clear c34b0
               try clear c34b1
               try clear c35
               try clear c37
               try clear c37b0
               try clear c37b1
               try clear c38
               try clear c38b0
               try clear c38b1
               try clear c39
               try clear c39b0
               try clear c39b1
               try clear c41
               try clear c41b0
               try clear c41b1
               try clear c43
               try clear p1
               try clear p16
               try clear p2
               try clear p21
               try clear p26
               try clear p6
               try clear q1
               try clear q16
               try clear q2
               try clear q21
               try clear q26
               obtain ⟨kq, x12_41, x13_41, rfl, rfl, HA, HJ41, HB⟩ := hcut; cases kq with
               | zero => exact absurd HA.out (by simp [bulletinref19_Word.j4])
               | succ kj41 =>
                have H := HA.out; clear HA; simp only [bulletinref19_Word.j4] at H; have HC46 := Aside0.mk H; clear H
                go_upto_region 17 with (fail)
                go_cut [112] (fun v112 wc => ∃ (kq : Nat) (x112_45 : Bool), v112 = .bool x112_45 ∧ Aside0 (bulletinref19_Word.j5 kq a0 a1 (wrap64 ((wrap64 (a1 + 2)) + t890)) (wrap64 ((ji36) + t891)) (a0.extract ((ji36) : Int).toNat ((wrap64 ((ji36) + t891)) : Int).toNat) x12_41 x13_41 x112_45 = some (r1, r2)) ∧ Aside0 (kq ≤ kj41) ∧ Aside0 (Below w.heap.size w wc))
                case first =>
                 have H := HC46.out; clear HC46
                 by_cases c47 : (bt a0 (ji23)) = 98
                 ·rw [if_pos c47] at H; have c47b0 := beq_iff_eq.mpr c47; have c47b1 := bne_eq_false_iff_eq.mpr c47; clear c47
                  (first | rw [c47b0] | (simp only [i64_w, i32_w]; rw [c47b0]) | skip)
                  have H' := Aside0.mk H; clear H
                  as_aux_lemma =>
                   go_wp2
                   go_meet
                   case rel => exact ⟨_, (true), cl, (by first | exact H' | (rw [hji13]; exact H') | (rw [hji18]; exact H') | (rw [hji23]; exact H') | (rw [hji30]; exact H') | (rw [hji36]; exact H') | (rw [hji53]; exact H')), ⟨by have := HJ2.out; have := HJ9.out; have := HJ27.out; have := HJ39.out; have := HJ41.out; first | omega | exact Nat.le_refl _⟩, ⟨bw⟩⟩
                 rw [if_neg c47] at H; have c47b0 := beq_eq_false_iff_ne.mpr c47; have c47b1 := bne_iff_ne.mpr c47
                 (first | rw [c47b0] | (simp only [i64_w, i32_w]; rw [c47b0]) | skip)
                 have H' := Aside0.mk H; clear H
                 as_aux_lemma =>
                  go_wp2
                  go_meet
                  case rel => exact ⟨_, (((bt a0 (ji23)) == 66)), (by first | rfl | (simp; done) | (simp only [← hji23] <;> (first | rfl | simp)) | (simp [*]; done) | (simp [nil_ne]; done) | (simp [u8_w, i64w_]; done) | (simp [size_lit]; done) | (simp; unfold wrap64; omega)), (by first | exact H' | (rw [hji13]; exact H') | (rw [hji18]; exact H') | (rw [hji23]; exact H') | (rw [hji30]; exact H') | (rw [hji36]; exact H') | (rw [hji53]; exact H')), ⟨by have := HJ2.out; have := HJ9.out; have := HJ27.out; have := HJ39.out; have := HJ41.out; first | omega | exact Nat.le_refl _⟩, ⟨bw⟩⟩
                case rest =>
                 clear HC46
                 try clear c1
                 try clear p1
                 try clear q1
                 try clear hx1
                 try clear c2
                 try clear p2
                 try clear q2
                 try clear hx2
                 try clear c3
                 try clear c4
                 try clear c4b0
                 try clear c5
                 try clear c5b0
                 try clear c5b1
                 try clear c6
                 try clear c6b0
                 try clear c6b1
                 try clear p6
                 try clear c7
                 try clear c7b0
                 try clear c7b1
                 try clear c8
                 try clear c11
                 try clear c11b0
                 try clear c11b1
                 try clear c12
                 try clear c12b0
                 try clear c14
                 try clear c14b0
                 try clear c15
                 try clear c15b0
                 try clear p16
                 try clear q16
                 try clear hx16
                 try clear c17
                 try clear c17b0
                 try clear c17b1
                 try clear c19
                 try clear c19b0
                 try clear c20
                 try clear c20b0
                 try clear p21
                 try clear q21
                 try clear hx21
                 try clear c22
                 try clear c24
                 try clear c24b0
                 try clear c25
                 try clear c25b0
                 try clear p26
                 try clear q26
                 try clear hx26
                 try clear c29
                 try clear c29b0
                 try clear c31
                 try clear c31b0
                 try clear c31b1
                 try clear c32
                 try clear c32b0
                 try clear c32b1
                 try clear c33
                 try clear c33b0
                 try clear c33b1
                 try clear c34
                 try clear c34b0
                 try clear c34b1
                 try clear c35
                 try clear c37
                 try clear c37b0
                 try clear c37b1
                 try clear c38
                 try clear c38b0
                 try clear c38b1
                 try clear c39
                 try clear c39b0
                 try clear c39b1
                 try clear c41
                 try clear c41b0
                 try clear c41b1
                 try clear c43
                 try clear c47
                 try clear c47b0
                 try clear c47b1
                 try clear p1
                 try clear p16
                 try clear p2
                 try clear p21
                 try clear p26
                 try clear p6
                 try clear q1
                 try clear q16
                 try clear q2
                 try clear q21
                 try clear q26
                 obtain ⟨kq, x112_45, rfl, HA, HJ45, HB⟩ := hcut; cases kq with
                 | zero => exact absurd HA.out (by simp [bulletinref19_Word.j5])
                 | succ kj45 =>
                  have H := HA.out; clear HA; simp only [bulletinref19_Word.j5] at H; have HC48 := Aside0.mk H; clear H
                  go_upto_if 112 with (fail)
                  go_cut [12, 13] (fun v12 v13 wc => ∃ (kq : Nat) (x12_47 : ByteArray) (x13_47 : Bool), v12 = .string x12_47 ∧ v13 = .bool x13_47 ∧ Aside0 (bulletinref19_Word.j6 kq a0 a1 (wrap64 ((wrap64 (a1 + 2)) + t890)) (wrap64 ((ji36) + t891)) x12_47 x13_47 = some (r1, r2)) ∧ Aside0 (kq ≤ kj45) ∧ Aside0 (Below w.heap.size w wc))
                  case first =>
                   have H := HC48.out; clear HC48
                   by_cases c49 : x112_45 = true
                   ·subst c49; rw [if_pos rfl] at H; replace H := Option.bind_eq_some_iff.mp H; obtain ⟨⟨t894, t895⟩, A500, H⟩ := H; replace H : (bulletinref19_Word.j6 kj45 a0 a1 (wrap64 ((wrap64 (a1 + 2)) + t890)) (wrap64 ((ji36) + t891)) t894 t895) = some (r1, r2) := H; have A50 := Aside0.mk A500; clear A500; have H' := Aside0.mk H; clear H
                    as_aux_lemma =>
                     go_wp2_with (first | ((with_reducible refine gate_callee (f := 180) rfl ?_); refine goesL_ (some 115) rfl rfl Tryz.func180 (by kernel_rfl) rfl #[.string (a0.extract ((ji36) : Int).toNat ((wrap64 ((ji36) + t891)) : Int).toNat)] rfl (by (try simp only [List.map_toArray, List.map_cons, List.map_nil]); first | done | (simp only [hji36]; rfl) | rfl | (simp only [List.length_drop, List.length_take]; rfl)) ?_; (with_reducible refine (bulletinref18_Decode.calls kj45 (a0.extract ((ji36) : Int).toNat ((wrap64 ((ji36) + t891)) : Int).toNat) t894 t895 _ A50.out).mono ?_); rintro e w51 ⟨rfl, hb⟩; refine ⟨_, rfl, ?_⟩; have n0_ := Aside0.mk (below_step bw hb); clear HB; have HB := n0_; clear n0_; (try clear hb); (try clear hb2); (try clear hk); (try clear hi)))
                     refine Met.intro ?_
                     go_step
                     (try rw [hji36])
                     (repeat apply Exists.intro)
                     refine ⟨?rel, rfl⟩
                     case rel => exact ⟨_, (t894), (t895), cl, cl, (by first | exact H' | (rw [hji13]; exact H') | (rw [hji18]; exact H') | (rw [hji23]; exact H') | (rw [hji30]; exact H') | (rw [hji36]; exact H') | (rw [hji53]; exact H')), ⟨by have := HJ2.out; have := HJ9.out; have := HJ27.out; have := HJ39.out; have := HJ41.out; have := HJ45.out; first | omega | exact Nat.le_refl _⟩, ⟨bw⟩⟩
                   replace c49 := Bool.eq_false_iff.mpr c49; subst c49; rw [if_neg nft] at H; have H' := Aside0.mk H; clear H
                   as_aux_lemma =>
                    go_wp2
                    go_meet
                    case rel => exact ⟨_, (x12_41), (x13_41), cl, cl, (by first | exact H' | (rw [hji13]; exact H') | (rw [hji18]; exact H') | (rw [hji23]; exact H') | (rw [hji30]; exact H') | (rw [hji36]; exact H') | (rw [hji53]; exact H')), ⟨by have := HJ2.out; have := HJ9.out; have := HJ27.out; have := HJ39.out; have := HJ41.out; have := HJ45.out; first | omega | exact Nat.le_refl _⟩, ⟨bw⟩⟩
                  case rest =>
                   clear HC48
                   try clear c1
                   try clear p1
                   try clear q1
                   try clear hx1
                   try clear c2
                   try clear p2
                   try clear q2
                   try clear hx2
                   try clear c3
                   try clear c4
                   try clear c4b0
                   try clear c5
                   try clear c5b0
                   try clear c5b1
                   try clear c6
                   try clear c6b0
                   try clear c6b1
                   try clear p6
                   try clear c7
                   try clear c7b0
                   try clear c7b1
                   try clear c8
                   try clear c11
                   try clear c11b0
                   try clear c11b1
                   try clear c12
                   try clear c12b0
                   try clear c14
                   try clear c14b0
                   try clear c15
                   try clear c15b0
                   try clear p16
                   try clear q16
                   try clear hx16
                   try clear c17
                   try clear c17b0
                   try clear c17b1
                   try clear c18
                   try clear c19
                   try clear c19b0
                   try clear c20
                   try clear c20b0
                   try clear p21
                   try clear q21
                   try clear hx21
                   try clear c22
                   try clear c24
                   try clear c24b0
                   try clear c25
                   try clear c25b0
                   try clear p26
                   try clear q26
                   try clear hx26
                   try clear c29
                   try clear c29b0
                   try clear c31
                   try clear c31b0
                   try clear c31b1
                   try clear c32
                   try clear c32b0
                   try clear c32b1
                   try clear c33
                   try clear c33b0
                   try clear c33b1
                   try clear c34
                   try clear c34b0
                   try clear c34b1
                   try clear c35
                   try clear c37
                   try clear c37b0
                   try clear c37b1
                   try clear c38
                   try clear c38b0
                   try clear c38b1
                   try clear c39
                   try clear c39b0
                   try clear c39b1
                   try clear c41
                   try clear c41b0
                   try clear c41b1
                   try clear c43
                   try clear c47
                   try clear c47b0
                   try clear c47b1
                   try clear c49
                   try clear p1
                   try clear p16
                   try clear p2
                   try clear p21
                   try clear p26
                   try clear p6
                   try clear q1
                   try clear q16
                   try clear q2
                   try clear q21
                   try clear q26
                   obtain ⟨kq, x12_47, x13_47, rfl, rfl, HA, HJ47, HB⟩ := hcut; cases kq with
                   | zero => exact absurd HA.out (by simp [bulletinref19_Word.j6])
                   | succ kj47 =>
                    have H := HA.out; clear HA; simp only [bulletinref19_Word.j6] at H
                    by_cases c52 : x13_47 = true
                    ·subst c52; rw [if_pos rfl] at H; obtain ⟨ji53, hji53⟩ : ∃ j_ : Int, (wrap64 (a1 + 2)) = j_ := ⟨_, rfl⟩
                     replace H : (if 0 ≤ (ji53) then (if (ji53) ≤ (wrap64 ((ji53) + t890)) then (if (wrap64 ((ji53) + t890)) ≤ (a0.size : Int) then ((bulletinref19_says.f kj47 (a0.extract ((ji53) : Int).toNat ((wrap64 ((ji53) + t890)) : Int).toNat) x12_47).bind fun bt896 => (if bt896.2 = true then (some (bt896.1, wrap64 ((wrap64 ((wrap64 ((ji36) + t891)) + 2)) - a1))) else (some ((⟨#[]⟩ : ByteArray), 0)))) else (none)) else (none)) else (none)) = some (r1, r2) := by first | (rw [hji53] at H; exact H) | (simp only [hji53] at H ⊢; exact H)
                     have hji53w : (IntKind.i64.wrap (a1 + 2)) = ji53 := (i64_w _).trans hji53
                     by_cases c54 : 0 ≤ (ji53)
                     ·rw [if_pos c54] at H; have c54b0 := eq_true c54; have c54b1 := decide_eq_true c54; clear c54
                      by_cases c55 : (ji53) ≤ (wrap64 ((ji53) + t890))
                      ·rw [if_pos c55] at H; have c55b0 := eq_true c55; have c55b1 := decide_eq_true c55
                       by_cases c56 : (wrap64 ((ji53) + t890)) ≤ (a0.size : Int)
                       ·rw [if_pos c56] at H; have c56b0 := eq_true c56; have c56b1 := decide_eq_true c56; replace H := Option.bind_eq_some_iff.mp H; obtain ⟨⟨t896, t897⟩, A570, H⟩ := H; replace H : (if t897 = true then (some (t896, wrap64 ((wrap64 ((wrap64 ((ji36) + t891)) + 2)) - a1))) else (some ((⟨#[]⟩ : ByteArray), 0))) = some (r1, r2) := H; have A57 := Aside0.mk A570; clear A570
                        by_cases c58 : t897 = true
                        ·subst c58; rw [if_pos rfl] at H; simp only [Option.some.injEq, Prod.mk.injEq] at H; obtain ⟨rfl, rfl⟩ := H
                         as_aux_lemma =>
                          go_wp2_with (first | ((with_reducible refine gate_callee (f := 181) rfl ?_); refine goesL_ (some 127) rfl rfl Tryz.func181 (by kernel_rfl) rfl #[.string (a0.extract ((ji53) : Int).toNat ((wrap64 ((ji53) + t890)) : Int).toNat), .string x12_47] rfl (by (try simp only [List.map_toArray, List.map_cons, List.map_nil]); first | done | (simp only [hji53]; rfl) | rfl | (simp only [List.length_drop, List.length_take]; rfl)) ?_; (with_reducible refine (bulletinref19_says.calls kj47 (a0.extract ((ji53) : Int).toNat ((wrap64 ((ji53) + t890)) : Int).toNat) x12_47 t896 true _ A57.out).mono ?_); rintro e w59 ⟨rfl, hb⟩; refine ⟨_, rfl, ?_⟩; have n0_ := Aside0.mk (below_step bw hb); clear HB; have HB := n0_; clear n0_; (try clear hb); (try clear hb2); (try clear hk); (try clear hi)))
                          go_ret2
                          exact ⟨by first | rfl | (simp [errW_none, errW_some] <;> rfl) | (simp only [← hji23, ← hji36, ← hji53]; first | rfl | (simp [errW_none, errW_some] <;> rfl)) | (simp [*, errW_none, errW_some] <;> rfl), bw⟩
                        replace c58 := Bool.eq_false_iff.mpr c58; subst c58; rw [if_neg nft] at H; simp only [Option.some.injEq, Prod.mk.injEq] at H; obtain ⟨rfl, rfl⟩ := H
                        as_aux_lemma =>
                         go_wp2_with (first | ((with_reducible refine gate_callee (f := 181) rfl ?_); refine goesL_ (some 127) rfl rfl Tryz.func181 (by kernel_rfl) rfl #[.string (a0.extract ((ji53) : Int).toNat ((wrap64 ((ji53) + t890)) : Int).toNat), .string x12_47] rfl (by (try simp only [List.map_toArray, List.map_cons, List.map_nil]); first | done | (simp only [hji53]; rfl) | rfl | (simp only [List.length_drop, List.length_take]; rfl)) ?_; (with_reducible refine (bulletinref19_says.calls kj47 (a0.extract ((ji53) : Int).toNat ((wrap64 ((ji53) + t890)) : Int).toNat) x12_47 t896 false _ A57.out).mono ?_); rintro e w60 ⟨rfl, hb⟩; refine ⟨_, rfl, ?_⟩; have n0_ := Aside0.mk (below_step bw hb); clear HB; have HB := n0_; clear n0_; (try clear hb); (try clear hb2); (try clear hk); (try clear hi)))
                         go_ret2
                         exact ⟨by first | rfl | (simp [errW_none, errW_some] <;> rfl) | (simp only [← hji23, ← hji36, ← hji53]; first | rfl | (simp [errW_none, errW_some] <;> rfl)) | (simp [*, errW_none, errW_some] <;> rfl), bw⟩
                       rw [if_neg c56] at H; exact absurd H (by simp)
                      rw [if_neg c55] at H; exact absurd H (by simp)
                     rw [if_neg c54] at H; exact absurd H (by simp)
                    replace c52 := Bool.eq_false_iff.mpr c52; subst c52; rw [if_neg nft] at H; simp only [Option.some.injEq, Prod.mk.injEq] at H; obtain ⟨rfl, rfl⟩ := H
                    as_aux_lemma =>
                     go_wp2
                     go_ret2
                     exact ⟨by first | rfl | (simp [errW_none, errW_some] <;> rfl) | (simp only [← hji23, ← hji36]; first | rfl | (simp [errW_none, errW_some] <;> rfl)) | (simp [*, errW_none, errW_some] <;> rfl), bw⟩
           rw [if_neg c39] at H; exact absurd H (by simp)
          rw [if_neg c38] at H; exact absurd H (by simp)
         rw [if_neg c37] at H; exact absurd H (by simp)
      rw [if_neg c25] at H; exact absurd H (by simp)
     rw [if_neg c24] at H; exact absurd H (by simp)

end Go.Proofs.YtihabmcaplnbcaaGreatDoor.Fn
namespace Go.Proofs.YtihabmcaplnbcaaGreatDoor.Fn
open Go.RowKit Go.Proofs.YtihabmcaplnbcaaGreatDoorW.PrintWords Go.Proofs.YtihabmcaplnbcaaGreatDoorW.PrintLast Go.Proofs.YtihabmcaplnbcaaGreatDoorW.PrintMore
attribute [local go_sem] max2_int min2_int max_two min_two max_three min_three max_four min_four
set_option linter.unusedVariables false
set_option linter.unusedSimpArgs false

mutual
def bulletinref19_Decode.l0 : Nat → ByteArray → ByteArray → Bool → Int → Option (ByteArray)
 | 0, _, _, _, _ => none
 | k + 1, x0, x3, x4, x5 => if x5 < (x0.size : Int) then (bulletinref19_Decode.l1 k x0 x3 x4 x5 x5) else (some x3)
def bulletinref19_Decode.l1 : Nat → ByteArray → ByteArray → Bool → Int → Int → Option (ByteArray)
 | 0, _, _, _, _, _ => none
 | k + 1, x0, x3, x4, x5, x6 => if x4 = true then (if x6 < (x0.size : Int) then (if 0 ≤ x6 then (if (bt x0 x6) = 32 then (bulletinref19_Decode.l1 k x0 x3 x4 x5 (wrap64 (x6 + 1))) else (if (bt x0 x6) = 9 then (bulletinref19_Decode.l1 k x0 x3 x4 x5 (wrap64 (x6 + 1))) else ((bulletinref19_Word.f k x0 x6).bind fun bt898 => (if bt898.2 > 0 then (if x3.size + bt898.1.size ≤ 9223372036854775807 then (bulletinref19_Decode.l0 k x0 (x3 ++ bt898.1) true (wrap64 (x6 + bt898.2))) else (none)) else (if 0 ≤ x5 then (if x5 ≤ (wrap64 (x5 + 1)) then (if (wrap64 (x5 + 1)) ≤ (x0.size : Int) then (if x3.size + (x0.extract (x5 : Int).toNat ((wrap64 (x5 + 1)) : Int).toNat).size ≤ 9223372036854775807 then (bulletinref19_Decode.l0 k x0 (x3 ++ (x0.extract (x5 : Int).toNat ((wrap64 (x5 + 1)) : Int).toNat)) false (wrap64 (x5 + 1))) else (none)) else (none)) else (none)) else (none)))))) else (none)) else ((bulletinref19_Word.f k x0 x6).bind fun bt900 => (if bt900.2 > 0 then (if x3.size + bt900.1.size ≤ 9223372036854775807 then (bulletinref19_Decode.l0 k x0 (x3 ++ bt900.1) true (wrap64 (x6 + bt900.2))) else (none)) else (if 0 ≤ x5 then (if x5 ≤ (wrap64 (x5 + 1)) then (if (wrap64 (x5 + 1)) ≤ (x0.size : Int) then (if x3.size + (x0.extract (x5 : Int).toNat ((wrap64 (x5 + 1)) : Int).toNat).size ≤ 9223372036854775807 then (bulletinref19_Decode.l0 k x0 (x3 ++ (x0.extract (x5 : Int).toNat ((wrap64 (x5 + 1)) : Int).toNat)) false (wrap64 (x5 + 1))) else (none)) else (none)) else (none)) else (none))))) else ((bulletinref19_Word.f k x0 x6).bind fun bt902 => (if bt902.2 > 0 then (if x3.size + bt902.1.size ≤ 9223372036854775807 then (bulletinref19_Decode.l0 k x0 (x3 ++ bt902.1) true (wrap64 (x6 + bt902.2))) else (none)) else (if 0 ≤ x5 then (if x5 ≤ (wrap64 (x5 + 1)) then (if (wrap64 (x5 + 1)) ≤ (x0.size : Int) then (if x3.size + (x0.extract (x5 : Int).toNat ((wrap64 (x5 + 1)) : Int).toNat).size ≤ 9223372036854775807 then (bulletinref19_Decode.l0 k x0 (x3 ++ (x0.extract (x5 : Int).toNat ((wrap64 (x5 + 1)) : Int).toNat)) false (wrap64 (x5 + 1))) else (none)) else (none)) else (none)) else (none))))
end
def bulletinref19_Decode.f (k : Nat) (a0 : ByteArray) : Option (ByteArray) := bulletinref19_Decode.l0 k a0 (⟨#[]⟩ : ByteArray) false 0
set_option maxHeartbeats 8000000 in
set_option maxRecDepth 100000 in
theorem bulletinref19_Decode.calls (k : Nat) (a0 : ByteArray) (r : ByteArray) (w : World) (h : bulletinref19_Decode.f k a0 = some r) :
  Calls Tryz.prog 100 #[.string a0] w fun e w' => e = .returned (.string r) ∧ Below w.heap.size w w' := by
 have HB := Aside0.mk (Below.refl w.heap.size w); have H : (bulletinref19_Decode.l0 k a0 (⟨#[]⟩ : ByteArray) false 0) = some r := h; clear h; have H' := Aside0.mk H; clear H
 go_enter Tryz.func100, Tryz.ntmps100
 go_wp2
 go_loopg [3, 4, 5] k (fun kq v3 v4 v5 w' => ∃ (x3_1 : ByteArray) (x4_1 : Bool) (x5_1 : Int), v3 = .string x3_1 ∧ v4 = .bool x4_1 ∧ v5 = .int .i64 x5_1 ∧ Aside0 (bulletinref19_Decode.l0 kq a0 x3_1 x4_1 x5_1 = some r) ∧ Aside0 (kq ≤ k) ∧ Aside0 (Below w.heap.size w w'))
 case atStart => exact ⟨((⟨#[]⟩ : ByteArray)), (false), (0), cl, cl, cl, H', ⟨Nat.le_refl _⟩, ⟨bw⟩⟩
 case round =>
  clear H'
  try clear c1
  obtain ⟨x3_1, x4_1, x5_1, rfl, rfl, rfl, HA, HK1, HB⟩ := hrel; cases gk with
  | zero => exact absurd HA.out (by simp [bulletinref19_Decode.l0])
  | succ k1 =>
   have H := HA.out; clear HA; simp only [bulletinref19_Decode.l0] at H
   by_cases c2 : x5_1 < (a0.size : Int)
   ·rw [if_pos c2] at H; have c2b0 := decide_eq_true c2; clear c2; have H' := Aside0.mk H; clear H
    go_wp2
    go_loopg [6] k1 (fun kq v6 w' => ∃ (x6_2 : Int), v6 = .int .i64 x6_2 ∧ Aside0 (bulletinref19_Decode.l1 kq a0 x3_1 x4_1 x5_1 x6_2 = some r) ∧ Aside0 (kq ≤ k1) ∧ Aside0 (Below w.heap.size w w'))
    case atStart => exact ⟨(x5_1), cl, H', ⟨Nat.le_refl _⟩, ⟨bw⟩⟩
    case round =>
     clear H'
     try clear c1
     try clear c2
     try clear c2b0
     try clear p2
     obtain ⟨x6_2, rfl, HA, HK2, HB⟩ := hrel; cases gk with
     | zero => exact absurd HA.out (by simp [bulletinref19_Decode.l1])
     | succ k2 =>
      have H := HA.out; clear HA; simp only [bulletinref19_Decode.l1] at H
      by_cases c3 : x4_1 = true
      ·subst c3; rw [if_pos rfl] at H
       by_cases c4 : x6_2 < (a0.size : Int)
       ·rw [if_pos c4] at H; have c4b0 := decide_eq_true c4; clear c4
        by_cases c5 : 0 ≤ x6_2
        ·rw [if_pos c5] at H; have c5b0 := decide_eq_true c5; clear c5
         by_cases c7 : (bt a0 x6_2) = 32
         ·rw [if_pos c7] at H; have c7b0 := beq_iff_eq.mpr c7; have c7b1 := bne_eq_false_iff_eq.mpr c7; clear c7; have H' := Aside0.mk H; clear H; have p6 : 0 ≤ (x6_2 : Int) := od; have q6 : x6_2 < (a0.size : Int) := od; have hx6 := bt_at a0 x6_2; replace p6 := eq_true p6; replace q6 := eq_true q6
          go_wp2
          go_roundg k2
          case measure => have := HK1.out; have := HK2.out; omega
          case rel => exact ⟨(wrap64 (x6_2 + 1)), cl, H', ⟨by have := HK1.out; have := HK2.out; omega⟩, ⟨bw⟩⟩
         rw [if_neg c7] at H; have c7b0 := beq_eq_false_iff_ne.mpr c7; have c7b1 := bne_iff_ne.mpr c7
         by_cases c9 : (bt a0 x6_2) = 9
         ·rw [if_pos c9] at H; have c9b0 := beq_iff_eq.mpr c9; have c9b1 := bne_eq_false_iff_eq.mpr c9; clear c9; have H' := Aside0.mk H; clear H; have p6 : 0 ≤ (x6_2 : Int) := od; have q6 : x6_2 < (a0.size : Int) := od; have hx6 := bt_at a0 x6_2; replace p6 := eq_true p6; replace q6 := eq_true q6; have p8 : 0 ≤ (x6_2 : Int) := od; have q8 : x6_2 < (a0.size : Int) := od; have hx8 := bt_at a0 x6_2; replace p8 := eq_true p8; replace q8 := eq_true q8
          go_wp2
          go_roundg k2
          case measure => have := HK1.out; have := HK2.out; omega
          case rel => exact ⟨(wrap64 (x6_2 + 1)), cl, H', ⟨by have := HK1.out; have := HK2.out; omega⟩, ⟨bw⟩⟩
         rw [if_neg c9] at H; have c9b0 := beq_eq_false_iff_ne.mpr c9; have c9b1 := bne_iff_ne.mpr c9; replace H := Option.bind_eq_some_iff.mp H; obtain ⟨⟨t898, t899⟩, A100, H⟩ := H; replace H : (if t899 > 0 then (if x3_1.size + t898.size ≤ 9223372036854775807 then (bulletinref19_Decode.l0 k2 a0 (x3_1 ++ t898) true (wrap64 (x6_2 + t899))) else (none)) else (if 0 ≤ x5_1 then (if x5_1 ≤ (wrap64 (x5_1 + 1)) then (if (wrap64 (x5_1 + 1)) ≤ (a0.size : Int) then (if x3_1.size + (a0.extract (x5_1 : Int).toNat ((wrap64 (x5_1 + 1)) : Int).toNat).size ≤ 9223372036854775807 then (bulletinref19_Decode.l0 k2 a0 (x3_1 ++ (a0.extract (x5_1 : Int).toNat ((wrap64 (x5_1 + 1)) : Int).toNat)) false (wrap64 (x5_1 + 1))) else (none)) else (none)) else (none)) else (none))) = some r := H; have A10 := Aside0.mk A100; clear A100
         by_cases c11 : t899 > 0
         ·rw [if_pos c11] at H; have c11b0 : decide (0 < t899) = true := decide_eq_true c11; clear c11
          by_cases c12 : x3_1.size + t898.size ≤ 9223372036854775807
          ·rw [if_pos c12] at H; have c12b0 := eq_true c12; have c12b1 := decide_eq_true c12
           try have c12b2 : (9223372036854775807 < x3_1.size + t898.size) = False := eq_false (Nat.not_lt.2 c12)
           have H' := Aside0.mk H; clear H; have p6 : 0 ≤ (x6_2 : Int) := od; have q6 : x6_2 < (a0.size : Int) := od; have hx6 := bt_at a0 x6_2; replace p6 := eq_true p6; replace q6 := eq_true q6; have p8 : 0 ≤ (x6_2 : Int) := od; have q8 : x6_2 < (a0.size : Int) := od; have hx8 := bt_at a0 x6_2; replace p8 := eq_true p8; replace q8 := eq_true q8
           go_wp2_with (first | ((with_reducible refine gate_callee (f := 146) rfl ?_); refine goesL_ (some 38) rfl rfl Tryz.func146 (by kernel_rfl) rfl #[.string a0, .int .i64 x6_2] rfl am ?_; (with_reducible refine (bulletinref19_Word.calls k2 a0 x6_2 t898 t899 _ A10.out).mono ?_); rintro e w13 ⟨rfl, hb⟩; refine ⟨_, rfl, ?_⟩; have n0_ := Aside0.mk (below_step bw hb); clear HB; have HB := n0_; clear n0_; (try clear hb); (try clear hb2); (try clear hk); (try clear hi)))
           go_roundg k2
           case measure => have := HK1.out; have := HK2.out; omega
           case rel => exact ⟨(x3_1 ++ t898), (true), (wrap64 (x6_2 + t899)), cl, cl, cl, H', ⟨by have := HK1.out; have := HK2.out; omega⟩, ⟨bw⟩⟩
          rw [if_neg c12] at H; exact absurd H (by simp)
         rw [if_neg c11] at H; have c11b0 : decide (0 < t899) = false := decide_eq_false c11; clear c11
         by_cases c14 : 0 ≤ x5_1
         ·rw [if_pos c14] at H; have c14b0 := eq_true c14; have c14b1 := decide_eq_true c14; clear c14
          by_cases c15 : x5_1 ≤ (wrap64 (x5_1 + 1))
          ·rw [if_pos c15] at H; have c15b0 := eq_true c15; have c15b1 := decide_eq_true c15
           by_cases c16 : (wrap64 (x5_1 + 1)) ≤ (a0.size : Int)
           ·rw [if_pos c16] at H; have c16b0 := eq_true c16; have c16b1 := decide_eq_true c16
            by_cases c17 : x3_1.size + (a0.extract (x5_1 : Int).toNat ((wrap64 (x5_1 + 1)) : Int).toNat).size ≤ 9223372036854775807
            ·rw [if_pos c17] at H; have c17b0 := eq_true c17; have c17b1 := decide_eq_true c17
             try have c17b2 : (9223372036854775807 < x3_1.size + (a0.extract (x5_1 : Int).toNat ((wrap64 (x5_1 + 1)) : Int).toNat).size) = False := eq_false (Nat.not_lt.2 c17)
             try (have c17b3 := c17; simp only [ByteArray.size_append, size_lit, ByteArray.size_extract, List.size_toArray, List.length_cons, List.length_nil, Nat.zero_add, Nat.reduceAdd] at c17b3; have c17b4 := eq_false (Nat.not_lt.2 c17b3))
             have H' := Aside0.mk H; clear H; have p6 : 0 ≤ (x6_2 : Int) := od; have q6 : x6_2 < (a0.size : Int) := od; have hx6 := bt_at a0 x6_2; replace p6 := eq_true p6; replace q6 := eq_true q6; have p8 : 0 ≤ (x6_2 : Int) := od; have q8 : x6_2 < (a0.size : Int) := od; have hx8 := bt_at a0 x6_2; replace p8 := eq_true p8; replace q8 := eq_true q8
             go_wp2_with (first | ((with_reducible refine gate_callee (f := 146) rfl ?_); refine goesL_ (some 38) rfl rfl Tryz.func146 (by kernel_rfl) rfl #[.string a0, .int .i64 x6_2] rfl am ?_; (with_reducible refine (bulletinref19_Word.calls k2 a0 x6_2 t898 t899 _ A10.out).mono ?_); rintro e w18 ⟨rfl, hb⟩; refine ⟨_, rfl, ?_⟩; have n0_ := Aside0.mk (below_step bw hb); clear HB; have HB := n0_; clear n0_; (try clear hb); (try clear hb2); (try clear hk); (try clear hi)))
             go_roundg k2
             case measure => have := HK1.out; have := HK2.out; omega
             case rel => exact ⟨(x3_1 ++ (a0.extract (x5_1 : Int).toNat ((wrap64 (x5_1 + 1)) : Int).toNat)), (false), (wrap64 (x5_1 + 1)), cl, cl, cl, H', ⟨by have := HK1.out; have := HK2.out; omega⟩, ⟨bw⟩⟩
            rw [if_neg c17] at H; exact absurd H (by simp)
           rw [if_neg c16] at H; exact absurd H (by simp)
          rw [if_neg c15] at H; exact absurd H (by simp)
         rw [if_neg c14] at H; exact absurd H (by simp)
        rw [if_neg c5] at H; exact absurd H (by simp)
       rw [if_neg c4] at H; have c4b0 := decide_eq_false c4; clear c4; replace H := Option.bind_eq_some_iff.mp H; obtain ⟨⟨t900, t901⟩, A190, H⟩ := H; replace H : (if t901 > 0 then (if x3_1.size + t900.size ≤ 9223372036854775807 then (bulletinref19_Decode.l0 k2 a0 (x3_1 ++ t900) true (wrap64 (x6_2 + t901))) else (none)) else (if 0 ≤ x5_1 then (if x5_1 ≤ (wrap64 (x5_1 + 1)) then (if (wrap64 (x5_1 + 1)) ≤ (a0.size : Int) then (if x3_1.size + (a0.extract (x5_1 : Int).toNat ((wrap64 (x5_1 + 1)) : Int).toNat).size ≤ 9223372036854775807 then (bulletinref19_Decode.l0 k2 a0 (x3_1 ++ (a0.extract (x5_1 : Int).toNat ((wrap64 (x5_1 + 1)) : Int).toNat)) false (wrap64 (x5_1 + 1))) else (none)) else (none)) else (none)) else (none))) = some r := H; have A19 := Aside0.mk A190; clear A190
       by_cases c20 : t901 > 0
       ·rw [if_pos c20] at H; have c20b0 : decide (0 < t901) = true := decide_eq_true c20; clear c20
        by_cases c21 : x3_1.size + t900.size ≤ 9223372036854775807
        ·rw [if_pos c21] at H; have c21b0 := eq_true c21; have c21b1 := decide_eq_true c21
         try have c21b2 : (9223372036854775807 < x3_1.size + t900.size) = False := eq_false (Nat.not_lt.2 c21)
         have H' := Aside0.mk H; clear H
         go_wp2_with (first | ((with_reducible refine gate_callee (f := 146) rfl ?_); refine goesL_ (some 38) rfl rfl Tryz.func146 (by kernel_rfl) rfl #[.string a0, .int .i64 x6_2] rfl am ?_; (with_reducible refine (bulletinref19_Word.calls k2 a0 x6_2 t900 t901 _ A19.out).mono ?_); rintro e w22 ⟨rfl, hb⟩; refine ⟨_, rfl, ?_⟩; have n0_ := Aside0.mk (below_step bw hb); clear HB; have HB := n0_; clear n0_; (try clear hb); (try clear hb2); (try clear hk); (try clear hi)))
         go_roundg k2
         case measure => have := HK1.out; have := HK2.out; omega
         case rel => exact ⟨(x3_1 ++ t900), (true), (wrap64 (x6_2 + t901)), cl, cl, cl, H', ⟨by have := HK1.out; have := HK2.out; omega⟩, ⟨bw⟩⟩
        rw [if_neg c21] at H; exact absurd H (by simp)
       rw [if_neg c20] at H; have c20b0 : decide (0 < t901) = false := decide_eq_false c20; clear c20
       by_cases c23 : 0 ≤ x5_1
       ·rw [if_pos c23] at H; have c23b0 := eq_true c23; have c23b1 := decide_eq_true c23; clear c23
        by_cases c24 : x5_1 ≤ (wrap64 (x5_1 + 1))
        ·rw [if_pos c24] at H; have c24b0 := eq_true c24; have c24b1 := decide_eq_true c24
         by_cases c25 : (wrap64 (x5_1 + 1)) ≤ (a0.size : Int)
         ·rw [if_pos c25] at H; have c25b0 := eq_true c25; have c25b1 := decide_eq_true c25
          by_cases c26 : x3_1.size + (a0.extract (x5_1 : Int).toNat ((wrap64 (x5_1 + 1)) : Int).toNat).size ≤ 9223372036854775807
          ·rw [if_pos c26] at H; have c26b0 := eq_true c26; have c26b1 := decide_eq_true c26
           try have c26b2 : (9223372036854775807 < x3_1.size + (a0.extract (x5_1 : Int).toNat ((wrap64 (x5_1 + 1)) : Int).toNat).size) = False := eq_false (Nat.not_lt.2 c26)
           try (have c26b3 := c26; simp only [ByteArray.size_append, size_lit, ByteArray.size_extract, List.size_toArray, List.length_cons, List.length_nil, Nat.zero_add, Nat.reduceAdd] at c26b3; have c26b4 := eq_false (Nat.not_lt.2 c26b3))
           have H' := Aside0.mk H; clear H
           go_wp2_with (first | ((with_reducible refine gate_callee (f := 146) rfl ?_); refine goesL_ (some 38) rfl rfl Tryz.func146 (by kernel_rfl) rfl #[.string a0, .int .i64 x6_2] rfl am ?_; (with_reducible refine (bulletinref19_Word.calls k2 a0 x6_2 t900 t901 _ A19.out).mono ?_); rintro e w27 ⟨rfl, hb⟩; refine ⟨_, rfl, ?_⟩; have n0_ := Aside0.mk (below_step bw hb); clear HB; have HB := n0_; clear n0_; (try clear hb); (try clear hb2); (try clear hk); (try clear hi)))
           go_roundg k2
           case measure => have := HK1.out; have := HK2.out; omega
           case rel => exact ⟨(x3_1 ++ (a0.extract (x5_1 : Int).toNat ((wrap64 (x5_1 + 1)) : Int).toNat)), (false), (wrap64 (x5_1 + 1)), cl, cl, cl, H', ⟨by have := HK1.out; have := HK2.out; omega⟩, ⟨bw⟩⟩
          rw [if_neg c26] at H; exact absurd H (by simp)
         rw [if_neg c25] at H; exact absurd H (by simp)
        rw [if_neg c24] at H; exact absurd H (by simp)
       rw [if_neg c23] at H; exact absurd H (by simp)
      replace c3 := Bool.eq_false_iff.mpr c3; subst c3; rw [if_neg nft] at H; replace H := Option.bind_eq_some_iff.mp H; obtain ⟨⟨t902, t903⟩, A280, H⟩ := H; replace H : (if t903 > 0 then (if x3_1.size + t902.size ≤ 9223372036854775807 then (bulletinref19_Decode.l0 k2 a0 (x3_1 ++ t902) true (wrap64 (x6_2 + t903))) else (none)) else (if 0 ≤ x5_1 then (if x5_1 ≤ (wrap64 (x5_1 + 1)) then (if (wrap64 (x5_1 + 1)) ≤ (a0.size : Int) then (if x3_1.size + (a0.extract (x5_1 : Int).toNat ((wrap64 (x5_1 + 1)) : Int).toNat).size ≤ 9223372036854775807 then (bulletinref19_Decode.l0 k2 a0 (x3_1 ++ (a0.extract (x5_1 : Int).toNat ((wrap64 (x5_1 + 1)) : Int).toNat)) false (wrap64 (x5_1 + 1))) else (none)) else (none)) else (none)) else (none))) = some r := H; have A28 := Aside0.mk A280; clear A280
      by_cases c29 : t903 > 0
      ·rw [if_pos c29] at H; have c29b0 : decide (0 < t903) = true := decide_eq_true c29; clear c29
       by_cases c30 : x3_1.size + t902.size ≤ 9223372036854775807
       ·rw [if_pos c30] at H; have c30b0 := eq_true c30; have c30b1 := decide_eq_true c30
        try have c30b2 : (9223372036854775807 < x3_1.size + t902.size) = False := eq_false (Nat.not_lt.2 c30)
        have H' := Aside0.mk H; clear H
        go_wp2_with (first | ((with_reducible refine gate_callee (f := 146) rfl ?_); refine goesL_ (some 38) rfl rfl Tryz.func146 (by kernel_rfl) rfl #[.string a0, .int .i64 x6_2] rfl am ?_; (with_reducible refine (bulletinref19_Word.calls k2 a0 x6_2 t902 t903 _ A28.out).mono ?_); rintro e w31 ⟨rfl, hb⟩; refine ⟨_, rfl, ?_⟩; have n0_ := Aside0.mk (below_step bw hb); clear HB; have HB := n0_; clear n0_; (try clear hb); (try clear hb2); (try clear hk); (try clear hi)))
        go_roundg k2
        case measure => have := HK1.out; have := HK2.out; omega
        case rel => exact ⟨(x3_1 ++ t902), (true), (wrap64 (x6_2 + t903)), cl, cl, cl, H', ⟨by have := HK1.out; have := HK2.out; omega⟩, ⟨bw⟩⟩
       rw [if_neg c30] at H; exact absurd H (by simp)
      rw [if_neg c29] at H; have c29b0 : decide (0 < t903) = false := decide_eq_false c29; clear c29
      by_cases c32 : 0 ≤ x5_1
      ·rw [if_pos c32] at H; have c32b0 := eq_true c32; have c32b1 := decide_eq_true c32; clear c32
       by_cases c33 : x5_1 ≤ (wrap64 (x5_1 + 1))
       ·rw [if_pos c33] at H; have c33b0 := eq_true c33; have c33b1 := decide_eq_true c33
        by_cases c34 : (wrap64 (x5_1 + 1)) ≤ (a0.size : Int)
        ·rw [if_pos c34] at H; have c34b0 := eq_true c34; have c34b1 := decide_eq_true c34
         by_cases c35 : x3_1.size + (a0.extract (x5_1 : Int).toNat ((wrap64 (x5_1 + 1)) : Int).toNat).size ≤ 9223372036854775807
         ·rw [if_pos c35] at H; have c35b0 := eq_true c35; have c35b1 := decide_eq_true c35
          try have c35b2 : (9223372036854775807 < x3_1.size + (a0.extract (x5_1 : Int).toNat ((wrap64 (x5_1 + 1)) : Int).toNat).size) = False := eq_false (Nat.not_lt.2 c35)
          try (have c35b3 := c35; simp only [ByteArray.size_append, size_lit, ByteArray.size_extract, List.size_toArray, List.length_cons, List.length_nil, Nat.zero_add, Nat.reduceAdd] at c35b3; have c35b4 := eq_false (Nat.not_lt.2 c35b3))
          have H' := Aside0.mk H; clear H
          go_wp2_with (first | ((with_reducible refine gate_callee (f := 146) rfl ?_); refine goesL_ (some 38) rfl rfl Tryz.func146 (by kernel_rfl) rfl #[.string a0, .int .i64 x6_2] rfl am ?_; (with_reducible refine (bulletinref19_Word.calls k2 a0 x6_2 t902 t903 _ A28.out).mono ?_); rintro e w36 ⟨rfl, hb⟩; refine ⟨_, rfl, ?_⟩; have n0_ := Aside0.mk (below_step bw hb); clear HB; have HB := n0_; clear n0_; (try clear hb); (try clear hb2); (try clear hk); (try clear hi)))
          go_roundg k2
          case measure => have := HK1.out; have := HK2.out; omega
          case rel => exact ⟨(x3_1 ++ (a0.extract (x5_1 : Int).toNat ((wrap64 (x5_1 + 1)) : Int).toNat)), (false), (wrap64 (x5_1 + 1)), cl, cl, cl, H', ⟨by have := HK1.out; have := HK2.out; omega⟩, ⟨bw⟩⟩
         rw [if_neg c35] at H; exact absurd H (by simp)
        rw [if_neg c34] at H; exact absurd H (by simp)
       rw [if_neg c33] at H; exact absurd H (by simp)
      rw [if_neg c32] at H; exact absurd H (by simp)
   rw [if_neg c2] at H; have c2b0 := decide_eq_false c2; clear c2; obtain rfl := Option.some.inj H
   go_wp2
   go_ret
   exact ⟨ew, bw⟩

end Go.Proofs.YtihabmcaplnbcaaGreatDoor.Fn
namespace Go.Proofs.YtihabmcaplnbcaaGreatDoor.Fn
open Go.RowKit Go.Proofs.YtihabmcaplnbcaaGreatDoorW.PrintWords Go.Proofs.YtihabmcaplnbcaaGreatDoorW.PrintLast Go.Proofs.YtihabmcaplnbcaaGreatDoorW.PrintMore
attribute [local go_sem] max2_int min2_int max_two min_two max_three min_three max_four min_four
set_option linter.unusedVariables false
set_option linter.unusedSimpArgs false
def bulletinref34_Subject.f (k : Nat) (l0_0 : List (S74)) (a0_1 : ByteArray) : Option (ByteArray) := (bulletinref16_Get.f k l0_0 a0_1 (⟨#[83, 117, 98, 106, 101, 99, 116]⟩ : ByteArray)).bind fun t905 => ((bulletinref19_Decode.f k t905).bind fun t906 => ((bulletinref06_Clean.f k t906).bind fun t907 => (some t907)))
set_option maxHeartbeats 8000000 in
set_option maxRecDepth 100000 in
theorem bulletinref34_Subject.calls (k : Nat) (A0_0 : Option Addr) (c0_0 : Nat) (l0_0 : List (S74)) (a0_1 : ByteArray) (r : ByteArray) (w : World) (hr0_0 : Kd.C k74 w A0_0 l0_0.length l0_0) (hc0_0 : l0_0.length ≤ c0_0) (h : bulletinref34_Subject.f k l0_0 a0_1 = some r) :
  Calls Tryz.prog 60 #[.agg #[.slice A0_0 l0_0.length c0_0, .string a0_1]] w fun e w' => e = .returned (.string r) ∧ Below w.heap.size w w' := by
 have hu24 := Tryz.underlying24; have HR0_0 := Aside0.mk hr0_0; have HC0_0 := Aside0.mk hc0_0; clear hr0_0 hc0_0; have HB := Aside0.mk (Below.refl w.heap.size w); have H : ((bulletinref16_Get.f k l0_0 a0_1 (⟨#[83, 117, 98, 106, 101, 99, 116]⟩ : ByteArray)).bind fun t905 => ((bulletinref19_Decode.f k t905).bind fun t906 => ((bulletinref06_Clean.f k t906).bind fun t907 => (some t907)))) = some r := h; clear h; replace H := Option.bind_eq_some_iff.mp H; obtain ⟨t905, A20, H⟩ := H; have A2 := Aside0.mk A20; clear A20; replace H := Option.bind_eq_some_iff.mp H; obtain ⟨t906, A30, H⟩ := H; have A3 := Aside0.mk A30; clear A30; replace H := Option.bind_eq_some_iff.mp H; obtain ⟨t907, A40, H⟩ := H; have A4 := Aside0.mk A40; clear A40; obtain rfl := Option.some.inj H
 go_enter Tryz.func60, Tryz.ntmps60
 go_wp2_with (first | ((with_reducible refine gate_dst (N := 1) rfl ?_); refine box_event ?hg (N := 1) ?hd (cs := #[.slice A0_0 l0_0.length c0_0, .string a0_1]) (t := 24) ?hr ?_; (case hd => rfl); (case hg => rfl); (case hr => first | (go_simp; done) | (go_simp; rfl)); intro gb904 hg w5 hbox hb; have n0_ := Aside0.mk (below_step bw hb); have n1_ := Aside0.mk (hbox); have n2_ := Aside0.mk ((by rw [hg]; exact (below_size bw) : w.heap.size ≤ gb904)); have n3_ := Aside0.mk ((by rw [hg]; exact (below_size bw) : w.heap.size ≤ gb904)); clear HB; have HB := n0_; have BK904 := n1_; have GW904 := n2_; have GE904 := n3_; clear n0_ n1_ n2_ n3_; clear hb hbox hg; have hcz6_0 : w5.cell? ⟨gb904, 0, none⟩ = some (.slice A0_0 l0_0.length c0_0) := (blk_cell BK904.out 0).trans rfl; have hcz6_1 : w5.cell? ⟨gb904, 1, none⟩ = some (.string a0_1) := (blk_cell BK904.out 1).trans rfl; have hfz6_0 := blk_frozen BK904.out 0; have hfz6_1 := blk_frozen BK904.out 1) | ((with_reducible refine gate_callee (f := 18) rfl ?_); refine goesL_ (some 4) rfl rfl Tryz.func18 (by kernel_rfl) rfl #[.agg #[.slice A0_0 l0_0.length c0_0, .string a0_1], .string (⟨#[83, 117, 98, 106, 101, 99, 116]⟩ : ByteArray)] rfl am ?_; (with_reducible refine (bulletinref16_Get.calls k _ _ l0_0 a0_1 (⟨#[83, 117, 98, 106, 101, 99, 116]⟩ : ByteArray) t905 _ ?side1 ?side2 A2.out).mono ?_); (case side1 => repeat (first | exact (Kd.C_below HR0_0.out HB.out) | (with_reducible refine Kd.C_alloc ?_ _) | (with_reducible refine Kd.C_drewN ?_ _) | (with_reducible refine Kd.C_drew ?_))); (case side2 => exact HC0_0.out); rintro e w7 ⟨rfl, hb⟩; refine ⟨_, rfl, ?_⟩; have n0_ := Aside0.mk (blk_below (g := gb904) (o := .cells #[.slice A0_0 l0_0.length c0_0, .string a0_1] 24 (0, 0)) bk hb); have n1_ := Aside0.mk (below_step bwS hb); clear BK904; clear HB; have BK904 := n0_; have HB := n1_; clear n0_ n1_; (try clear hb); (try clear hb2); (try clear hk); (try clear hi)) | ((with_reducible refine gate_callee (f := 100) rfl ?_); refine goesL_ (some 5) rfl rfl Tryz.func100 (by kernel_rfl) rfl #[.string t905] rfl am ?_; (with_reducible refine (bulletinref19_Decode.calls k t905 t906 _ A3.out).mono ?_); rintro e w8 ⟨rfl, hb⟩; refine ⟨_, rfl, ?_⟩; have n0_ := Aside0.mk (blk_below (g := gb904) (o := .cells #[.slice A0_0 l0_0.length c0_0, .string a0_1] 24 (0, 0)) bk hb); have n1_ := Aside0.mk (below_step bwS hb); clear BK904; clear HB; have BK904 := n0_; have HB := n1_; clear n0_ n1_; (try clear hb); (try clear hb2); (try clear hk); (try clear hi)) | ((with_reducible refine gate_callee (f := 99) rfl ?_); refine goesL_ (some 6) rfl rfl Tryz.func99 (by kernel_rfl) rfl #[.string t906] rfl am ?_; (with_reducible refine (bulletinref06_Clean.calls k t906 t907 _ A4.out).mono ?_); rintro e w9 ⟨rfl, hb⟩; refine ⟨_, rfl, ?_⟩; have n0_ := Aside0.mk (blk_below (g := gb904) (o := .cells #[.slice A0_0 l0_0.length c0_0, .string a0_1] 24 (0, 0)) bk hb); have n1_ := Aside0.mk (below_step bwS hb); clear BK904; clear HB; have BK904 := n0_; have HB := n1_; clear n0_ n1_; (try clear hb); (try clear hb2); (try clear hk); (try clear hi)))
 go_ret
 exact ⟨ew, bwS⟩

def bulletinref06_Clip.l0 : Nat → ByteArray → Int → Int → Int → Option (ByteArray)
 | 0, _, _, _, _ => none
 | k + 1, x0, x1, x5, x6 => if x6 < x1 then (if x5 < (x0.size : Int) then ((bulletinref06_One.f k x0 x5).bind fun bt912 => (bulletinref06_Clip.l0 k x0 x1 (wrap64 (x5 + bt912.2)) (wrap64 (x6 + 1)))) else (if 0 ≤ x5 then (if x5 ≤ (x0.size : Int) then (some (x0.extract 0 (x5 : Int).toNat)) else (none)) else (none))) else (if 0 ≤ x5 then (if x5 ≤ (x0.size : Int) then (some (x0.extract 0 (x5 : Int).toNat)) else (none)) else (none))
def bulletinref06_Clip.f (k : Nat) (a0 : ByteArray) (a1 : Int) : Option (ByteArray) := bulletinref06_Clip.l0 k a0 a1 0 0
set_option maxHeartbeats 8000000 in
set_option maxRecDepth 100000 in
theorem bulletinref06_Clip.calls (k : Nat) (a0 : ByteArray) (a1 : Int) (r : ByteArray) (w : World) (h : bulletinref06_Clip.f k a0 a1 = some r) :
  Calls Tryz.prog 102 #[.string a0, .int .i64 a1] w fun e w' => e = .returned (.string r) ∧ Below w.heap.size w w' := by
 have HB := Aside0.mk (Below.refl w.heap.size w); have H : (bulletinref06_Clip.l0 k a0 a1 0 0) = some r := h; clear h; have H' := Aside0.mk H; clear H
 go_enter Tryz.func102, Tryz.ntmps102
 go_wp2
 go_loopg [5, 6] k (fun kq v5 v6 w' => ∃ (x5_1 : Int) (x6_1 : Int), v5 = .int .i64 x5_1 ∧ v6 = .int .i64 x6_1 ∧ Aside0 (bulletinref06_Clip.l0 kq a0 a1 x5_1 x6_1 = some r) ∧ Aside0 (kq ≤ k) ∧ Aside0 (Below w.heap.size w w'))
 case atStart => exact ⟨(0), (0), cl, cl, H', ⟨Nat.le_refl _⟩, ⟨bw⟩⟩
 case round =>
  clear H'
  try clear c1
  try clear p2
  obtain ⟨x5_1, x6_1, rfl, rfl, HA, HK1, HB⟩ := hrel; cases gk with
  | zero => exact absurd HA.out (by simp [bulletinref06_Clip.l0])
  | succ k1 =>
   have H := HA.out; clear HA; simp only [bulletinref06_Clip.l0] at H
   by_cases c3 : x6_1 < a1
   ·rw [if_pos c3] at H; have c3b0 := decide_eq_true c3; clear c3
    by_cases c4 : x5_1 < (a0.size : Int)
    ·rw [if_pos c4] at H; have c4b0 := decide_eq_true c4; clear c4; replace H := Option.bind_eq_some_iff.mp H; obtain ⟨⟨t912, t913⟩, A50, H⟩ := H; replace H : (bulletinref06_Clip.l0 k1 a0 a1 (wrap64 (x5_1 + t913)) (wrap64 (x6_1 + 1))) = some r := H; have A5 := Aside0.mk A50; clear A50; have H' := Aside0.mk H; clear H
     go_wp2_with (first | ((with_reducible refine gate_callee (f := 147) rfl ?_); refine goesL_ (some 23) rfl rfl Tryz.func147 (by kernel_rfl) rfl #[.string a0, .int .i64 x5_1] rfl am ?_; (with_reducible refine (bulletinref06_One.calls k1 a0 x5_1 t912 t913 _ A5.out).mono ?_); rintro e w6 ⟨rfl, hb⟩; refine ⟨_, rfl, ?_⟩; have n0_ := Aside0.mk (below_step bw hb); clear HB; have HB := n0_; clear n0_; (try clear hb); (try clear hb2); (try clear hk); (try clear hi)))
     go_roundg k1
     case measure => have := HK1.out; omega
     case rel => exact ⟨(wrap64 (x5_1 + t913)), (wrap64 (x6_1 + 1)), cl, cl, H', ⟨by have := HK1.out; omega⟩, ⟨bw⟩⟩
    rw [if_neg c4] at H; have c4b0 := decide_eq_false c4; clear c4
    by_cases c7 : 0 ≤ x5_1
    ·rw [if_pos c7] at H; have c7b0 := eq_true c7; have c7b1 := decide_eq_true c7; clear c7
     by_cases c8 : x5_1 ≤ (a0.size : Int)
     ·rw [if_pos c8] at H; have c8b0 := eq_true c8; have c8b1 := decide_eq_true c8; clear c8; obtain rfl := Option.some.inj H
      go_wp2
      go_ret
      exact ⟨ew, bw⟩
     rw [if_neg c8] at H; exact absurd H (by simp)
    rw [if_neg c7] at H; exact absurd H (by simp)
   rw [if_neg c3] at H; have c3b0 := decide_eq_false c3; clear c3
   by_cases c9 : 0 ≤ x5_1
   ·rw [if_pos c9] at H; have c9b0 := eq_true c9; have c9b1 := decide_eq_true c9; clear c9
    by_cases c10 : x5_1 ≤ (a0.size : Int)
    ·rw [if_pos c10] at H; have c10b0 := eq_true c10; have c10b1 := decide_eq_true c10; clear c10; obtain rfl := Option.some.inj H
     go_wp2
     go_ret
     exact ⟨ew, bw⟩
    rw [if_neg c10] at H; exact absurd H (by simp)
   rw [if_neg c9] at H; exact absurd H (by simp)

def bulletinref33_Word.f (a0 : Int) : Option (ByteArray) := (some (([(⟨#[]⟩ : ByteArray), (⟨#[101, 97, 99, 104]⟩ : ByteArray), (⟨#[100, 105, 103, 101, 115, 116]⟩ : ByteArray), (⟨#[115, 105, 108, 101, 110, 116]⟩ : ByteArray)] : List ByteArray) : List ByteArray)).bind fun y908 => (if a0 < 1 then (some (⟨#[]⟩ : ByteArray)) else (if a0 > 3 then (some (⟨#[]⟩ : ByteArray)) else (if 0 ≤ a0 then (if a0 < (y908.length : Int) then (some (rdOf ByteArray.empty y908 a0)) else (none)) else (none))))
set_option maxHeartbeats 8000000 in
set_option maxRecDepth 100000 in
theorem bulletinref33_Word.calls (a0 : Int) (r : ByteArray) (w : World) (h : bulletinref33_Word.f a0 = some r) :
  Calls Tryz.prog 101 #[.int .i64 a0] w fun e w' => e = .returned (.string r) ∧ Below w.heap.size w w' := by
 have HB := Aside0.mk (Below.refl w.heap.size w); have H : ((some (([(⟨#[]⟩ : ByteArray), (⟨#[101, 97, 99, 104]⟩ : ByteArray), (⟨#[100, 105, 103, 101, 115, 116]⟩ : ByteArray), (⟨#[115, 105, 108, 101, 110, 116]⟩ : ByteArray)] : List ByteArray) : List ByteArray)).bind fun y908 => (if a0 < 1 then (some (⟨#[]⟩ : ByteArray)) else (if a0 > 3 then (some (⟨#[]⟩ : ByteArray)) else (if 0 ≤ a0 then (if a0 < (y908.length : Int) then (some (rdOf ByteArray.empty y908 a0)) else (none)) else (none))))) = some r := h; clear h; obtain ⟨y908, hy908⟩ : ∃ y_ : List ByteArray, y_ = (([(⟨#[]⟩ : ByteArray), (⟨#[101, 97, 99, 104]⟩ : ByteArray), (⟨#[100, 105, 103, 101, 115, 116]⟩ : ByteArray), (⟨#[115, 105, 108, 101, 110, 116]⟩ : ByteArray)] : List ByteArray)) := ⟨_, rfl⟩
 replace H : (if a0 < 1 then (some (⟨#[]⟩ : ByteArray)) else (if a0 > 3 then (some (⟨#[]⟩ : ByteArray)) else (if 0 ≤ a0 then (if a0 < (y908.length : Int) then (some (rdOf ByteArray.empty y908 a0)) else (none)) else (none)))) = some r := by first | (rw [hy908]; with_reducible exact H) | (have H2_ := (Option.bind_some _ _).symm.trans H; rw [hy908]; with_reducible exact H2_) | (have H2_ := (Option.bind_some _ _).symm.trans H; with_reducible exact H2_) | with_reducible exact H | (rw [hy908]; exact H) | exact H
 have Ny908 := Aside0.mk hy908; clear hy908
 by_cases c2 : a0 < 1
 ·rw [if_pos c2] at H; have c2b0 := decide_eq_true c2; clear c2; obtain rfl := Option.some.inj H
  go_enter Tryz.func101, Tryz.ntmps101
  go_wp2_with (first | ((with_reducible refine gate_dst (N := 4) rfl ?_); refine Kd.R_lit Kd.string _ 9 ?hg (N := 4) ?hd (xs := ([(⟨#[]⟩ : ByteArray), (⟨#[101, 97, 99, 104]⟩ : ByteArray), (⟨#[100, 105, 103, 101, 115, 116]⟩ : ByteArray), (⟨#[115, 105, 108, 101, 110, 116]⟩ : ByteArray)] : List ByteArray)) (inner := [.string (⟨#[]⟩ : ByteArray), .string (⟨#[101, 97, 99, 104]⟩ : ByteArray), .string (⟨#[100, 105, 103, 101, 115, 116]⟩ : ByteArray), .string (⟨#[115, 105, 108, 101, 110, 116]⟩ : ByteArray)]) (ok := fun _ => True) (okp := fun _ => True) ?hr ?hp (fun _ hk => hk) trivial (Below.refl _ _) (Nat.le_refl _) (by simp) ?_; (case hd => rfl); (case hg => rfl); (case hr => first | (go_simp; done) | (go_simp; rfl)); (case hp => exact (Reps.one (show Kd.M Kd.string _ _ _ (⟨#[]⟩ : ByteArray) [.string (⟨#[]⟩ : ByteArray)] from rfl) (Reps.one (show Kd.M Kd.string _ _ _ (⟨#[101, 97, 99, 104]⟩ : ByteArray) [.string (⟨#[101, 97, 99, 104]⟩ : ByteArray)] from rfl) (Reps.one (show Kd.M Kd.string _ _ _ (⟨#[100, 105, 103, 101, 115, 116]⟩ : ByteArray) [.string (⟨#[100, 105, 103, 101, 115, 116]⟩ : ByteArray)] from rfl) (Reps.one (show Kd.M Kd.string _ _ _ (⟨#[115, 105, 108, 101, 110, 116]⟩ : ByteArray) [.string (⟨#[115, 105, 108, 101, 110, 116]⟩ : ByteArray)] from rfl) (Reps.none _ _)))))); intro v909 w3 ho4 hb hg_ hnew_; clear hg_ hnew_; (first | rw [← Ny908.out] at ho4 | (simp only [Int.reduceToNat] at ho4; rw [← Ny908.out] at ho4)); have n0_ := Aside0.mk (Kd.R_lower ho4 (below_size bw)); have n1_ := Aside0.mk (below_step bw hb); clear HB; have HO910 := n0_; have HB := n1_; clear n0_ n1_; clear hb ho4))
  go_ret
  exact ⟨ew, bw⟩
 rw [if_neg c2] at H; have c2b0 := decide_eq_false c2; clear c2
 by_cases c5 : a0 > 3
 ·rw [if_pos c5] at H; have c5b0 : decide (3 < a0) = true := decide_eq_true c5; clear c5; obtain rfl := Option.some.inj H
  go_enter Tryz.func101, Tryz.ntmps101
  go_wp2_with (first | ((with_reducible refine gate_dst (N := 4) rfl ?_); refine Kd.R_lit Kd.string _ 9 ?hg (N := 4) ?hd (xs := ([(⟨#[]⟩ : ByteArray), (⟨#[101, 97, 99, 104]⟩ : ByteArray), (⟨#[100, 105, 103, 101, 115, 116]⟩ : ByteArray), (⟨#[115, 105, 108, 101, 110, 116]⟩ : ByteArray)] : List ByteArray)) (inner := [.string (⟨#[]⟩ : ByteArray), .string (⟨#[101, 97, 99, 104]⟩ : ByteArray), .string (⟨#[100, 105, 103, 101, 115, 116]⟩ : ByteArray), .string (⟨#[115, 105, 108, 101, 110, 116]⟩ : ByteArray)]) (ok := fun _ => True) (okp := fun _ => True) ?hr ?hp (fun _ hk => hk) trivial (Below.refl _ _) (Nat.le_refl _) (by simp) ?_; (case hd => rfl); (case hg => rfl); (case hr => first | (go_simp; done) | (go_simp; rfl)); (case hp => exact (Reps.one (show Kd.M Kd.string _ _ _ (⟨#[]⟩ : ByteArray) [.string (⟨#[]⟩ : ByteArray)] from rfl) (Reps.one (show Kd.M Kd.string _ _ _ (⟨#[101, 97, 99, 104]⟩ : ByteArray) [.string (⟨#[101, 97, 99, 104]⟩ : ByteArray)] from rfl) (Reps.one (show Kd.M Kd.string _ _ _ (⟨#[100, 105, 103, 101, 115, 116]⟩ : ByteArray) [.string (⟨#[100, 105, 103, 101, 115, 116]⟩ : ByteArray)] from rfl) (Reps.one (show Kd.M Kd.string _ _ _ (⟨#[115, 105, 108, 101, 110, 116]⟩ : ByteArray) [.string (⟨#[115, 105, 108, 101, 110, 116]⟩ : ByteArray)] from rfl) (Reps.none _ _)))))); intro v909 w6 ho7 hb hg_ hnew_; clear hg_ hnew_; (first | rw [← Ny908.out] at ho7 | (simp only [Int.reduceToNat] at ho7; rw [← Ny908.out] at ho7)); have n0_ := Aside0.mk (Kd.R_lower ho7 (below_size bw)); have n1_ := Aside0.mk (below_step bw hb); clear HB; have HO910 := n0_; have HB := n1_; clear n0_ n1_; clear hb ho7))
  go_ret
  exact ⟨ew, bw⟩
 rw [if_neg c5] at H; have c5b0 : decide (3 < a0) = false := decide_eq_false c5; clear c5
 by_cases c8 : 0 ≤ a0
 ·rw [if_pos c8] at H; have c8b0 := decide_eq_true c8; clear c8
  by_cases c9 : a0 < (y908.length : Int)
  ·rw [if_pos c9] at H; have c9b0 := decide_eq_true c9; clear c9; obtain rfl := Option.some.inj H
   go_enter Tryz.func101, Tryz.ntmps101
   go_wp2_with (first | ((with_reducible refine gate_dst (N := 4) rfl ?_); refine Kd.R_lit Kd.string _ 9 ?hg (N := 4) ?hd (xs := ([(⟨#[]⟩ : ByteArray), (⟨#[101, 97, 99, 104]⟩ : ByteArray), (⟨#[100, 105, 103, 101, 115, 116]⟩ : ByteArray), (⟨#[115, 105, 108, 101, 110, 116]⟩ : ByteArray)] : List ByteArray)) (inner := [.string (⟨#[]⟩ : ByteArray), .string (⟨#[101, 97, 99, 104]⟩ : ByteArray), .string (⟨#[100, 105, 103, 101, 115, 116]⟩ : ByteArray), .string (⟨#[115, 105, 108, 101, 110, 116]⟩ : ByteArray)]) (ok := fun _ => True) (okp := fun _ => True) ?hr ?hp (fun _ hk => hk) trivial (Below.refl _ _) (Nat.le_refl _) (by simp) ?_; (case hd => rfl); (case hg => rfl); (case hr => first | (go_simp; done) | (go_simp; rfl)); (case hp => exact (Reps.one (show Kd.M Kd.string _ _ _ (⟨#[]⟩ : ByteArray) [.string (⟨#[]⟩ : ByteArray)] from rfl) (Reps.one (show Kd.M Kd.string _ _ _ (⟨#[101, 97, 99, 104]⟩ : ByteArray) [.string (⟨#[101, 97, 99, 104]⟩ : ByteArray)] from rfl) (Reps.one (show Kd.M Kd.string _ _ _ (⟨#[100, 105, 103, 101, 115, 116]⟩ : ByteArray) [.string (⟨#[100, 105, 103, 101, 115, 116]⟩ : ByteArray)] from rfl) (Reps.one (show Kd.M Kd.string _ _ _ (⟨#[115, 105, 108, 101, 110, 116]⟩ : ByteArray) [.string (⟨#[115, 105, 108, 101, 110, 116]⟩ : ByteArray)] from rfl) (Reps.none _ _)))))); intro v909 w10 ho11 hb hg_ hnew_; clear hg_ hnew_; (first | rw [← Ny908.out] at ho11 | (simp only [Int.reduceToNat] at ho11; rw [← Ny908.out] at ho11)); have n0_ := Aside0.mk (Kd.R_lower ho11 (below_size bw)); have n1_ := Aside0.mk (below_step bw hb); clear HB; have HO910 := n0_; have HB := n1_; clear n0_ n1_; clear hb ho11; obtain ⟨Ao12, co12, eo12⟩ := Kd.R_slice HO910.out; subst eo12; have p911 : 0 ≤ (a0 : Int) := od; have q911 : a0 < (y908.length : Int) := od; obtain ⟨ad911, e911, hx911_0⟩ := Kd.at_string (Kd.R_reads' HO910.out).2.2 a0 p911 q911; cases e911; replace p911 := eq_true p911; replace q911 := eq_true q911))
   go_ret
   exact ⟨ew, bw⟩
  rw [if_neg c9] at H; exact absurd H (by simp)
 rw [if_neg c8] at H; exact absurd H (by simp)

end Go.Proofs.YtihabmcaplnbcaaGreatDoor.Fn
namespace Go.Proofs.YtihabmcaplnbcaaGreatDoor.Fn
open Go.RowKit Go.Proofs.YtihabmcaplnbcaaGreatDoorW.PrintWords Go.Proofs.YtihabmcaplnbcaaGreatDoorW.PrintLast Go.Proofs.YtihabmcaplnbcaaGreatDoorW.PrintMore
attribute [local go_sem] max2_int min2_int max_two min_two max_three min_three max_four min_four
set_option linter.unusedVariables false
set_option linter.unusedSimpArgs false

mutual
def bulletinref35_Of.l0 : Nat → List ByteArray → ByteArray → Int → Option (Int × Int × ByteArray)
 | 0, _, _, _ => none
 | k + 1, x0, x3, x4 => if x4 < (x0.length : Int) then (if x4 > 0 then (if x3.size + 1 ≤ 9223372036854775807 then (if 0 ≤ x4 then (if (x3 ++ (⟨#[32]⟩ : ByteArray)).size + (rdOf ByteArray.empty x0 x4).size ≤ 9223372036854775807 then (bulletinref35_Of.l0 k x0 ((x3 ++ (⟨#[32]⟩ : ByteArray)) ++ (rdOf ByteArray.empty x0 x4)) (wrap64 (x4 + 1))) else (none)) else (none)) else (none)) else (if 0 ≤ x4 then (if x3.size + (rdOf ByteArray.empty x0 x4).size ≤ 9223372036854775807 then (bulletinref35_Of.l0 k x0 (x3 ++ (rdOf ByteArray.empty x0 x4)) (wrap64 (x4 + 1))) else (none)) else (none))) else (if x3.toList = ([104, 101, 108, 112] : List UInt8) then (bulletinref35_Of.j1 k x3 true) else (bulletinref35_Of.j1 k x3 (x3.toList == ([105, 110, 102, 111] : List UInt8))))
def bulletinref35_Of.j1 : Nat → ByteArray → Bool → Option (Int × Int × ByteArray)
 | 0, _, _ => none
 | k + 1, x3, x28 => if x28 = true then (some (1, 0, (⟨#[]⟩ : ByteArray))) else (if x3.toList = ([106, 111, 105, 110] : List UInt8) then (bulletinref35_Of.j2 k x3 true) else (bulletinref35_Of.j2 k x3 (x3.toList == ([115, 117, 98, 115, 99, 114, 105, 98, 101] : List UInt8))))
def bulletinref35_Of.j2 : Nat → ByteArray → Bool → Option (Int × Int × ByteArray)
 | 0, _, _ => none
 | k + 1, x3, x35 => if x35 = true then (some (2, 1, (⟨#[]⟩ : ByteArray))) else (if x3.toList = ([108, 101, 97, 118, 101] : List UInt8) then (bulletinref35_Of.j3 k x3 true) else (if x3.toList = ([117, 110, 115, 117, 98, 115, 99, 114, 105, 98, 101] : List UInt8) then (bulletinref35_Of.j3 k x3 true) else (bulletinref35_Of.j3 k x3 (x3.toList == ([114, 101, 109, 111, 118, 101] : List UInt8)))))
def bulletinref35_Of.j3 : Nat → ByteArray → Bool → Option (Int × Int × ByteArray)
 | 0, _, _ => none
 | k + 1, x3, x46 => if x46 = true then (some (3, 0, (⟨#[]⟩ : ByteArray))) else (bulletinref35_Of.l1 k x3 1)
def bulletinref35_Of.l1 : Nat → ByteArray → Int → Option (Int × Int × ByteArray)
 | 0, _, _ => none
 | k + 1, x3, x5 => if x5 ≤ 3 then ((bulletinref33_Word.f x5).bind fun t918 => (if 5 + t918.size ≤ 9223372036854775807 then (if x3.toList = ((⟨#[106, 111, 105, 110, 32]⟩ : ByteArray) ++ t918).toList then (bulletinref35_Of.j5 k x3 x5 t918 true) else (if 10 + t918.size ≤ 9223372036854775807 then (bulletinref35_Of.j5 k x3 x5 t918 (x3.toList == ((⟨#[115, 117, 98, 115, 99, 114, 105, 98, 101, 32]⟩ : ByteArray) ++ t918).toList)) else (none))) else (none))) else ((bulletinref06_Clip.f k x3 30).bind fun t917 => (some (5, 0, t917)))
def bulletinref35_Of.j5 : Nat → ByteArray → Int → ByteArray → Bool → Option (Int × Int × ByteArray)
 | 0, _, _, _, _ => none
 | k + 1, x3, x5, x6, x63 => if x63 = true then (some (2, x5, (⟨#[]⟩ : ByteArray))) else (if 4 + x6.size ≤ 9223372036854775807 then (if x3.toList = ((⟨#[115, 101, 116, 32]⟩ : ByteArray) ++ x6).toList then (some (4, x5, (⟨#[]⟩ : ByteArray))) else (bulletinref35_Of.l1 k x3 (wrap64 (x5 + 1)))) else (none))
end
def bulletinref35_Of.f (k : Nat) (l0 : List ByteArray) : Option (Int × Int × ByteArray) := bulletinref35_Of.l0 k l0 (⟨#[]⟩ : ByteArray) 0
set_option maxHeartbeats 8000000 in
set_option maxRecDepth 100000 in
theorem bulletinref35_Of.calls (k : Nat) (A0 : Option Addr) (c0 : Nat) (l0 : List ByteArray) (r1 : Int) (r2 : Int) (r3 : ByteArray) (w : World) (hr0 : Kd.C Kd.string w A0 l0.length l0) (hc0 : l0.length ≤ c0) (h : bulletinref35_Of.f k l0 = some (r1, r2, r3)) :
  Calls Tryz.prog 62 #[.slice A0 l0.length c0] w fun e w' => e = .returned (.agg #[.int .i64 r1, .int .i64 r2, .string r3]) ∧ Below w.heap.size w w' := by
 have hu65 := Tryz.underlying65; have HR0 := Aside0.mk hr0; have HC0 := Aside0.mk hc0; clear hr0 hc0; have HB := Aside0.mk (Below.refl w.heap.size w); have H : (bulletinref35_Of.l0 k l0 (⟨#[]⟩ : ByteArray) 0) = some (r1, r2, r3) := h; clear h; have H' := Aside0.mk H; clear H
 go_enter Tryz.func62, Tryz.ntmps62
 go_wp2_with (first | ((with_reducible refine gate_dst (N := 2) rfl ?_); refine box_event ?hg (N := 2) ?hd (cs := #[.int .i64 0, .int .i64 0, .string (⟨#[]⟩ : ByteArray)]) (t := 65) ?hr ?_; (case hd => rfl); (case hg => rfl); (case hr => first | (go_simp; done) | (go_simp; rfl)); intro gb914 hg w2 hbox hb; have n0_ := Aside0.mk (below_step bw hb); have n1_ := Aside0.mk (hbox); have n2_ := Aside0.mk ((by rw [hg]; exact (below_size bw) : w.heap.size ≤ gb914)); have n3_ := Aside0.mk ((by rw [hg]; exact (below_size bw) : w.heap.size ≤ gb914)); clear HB; have HB := n0_; have BK914 := n1_; have GW914 := n2_; have GE914 := n3_; clear n0_ n1_ n2_ n3_; clear hb hbox hg))
 go_loopg [3, 4] k (fun kq v3 v4 w' => ∃ (x3_1 : ByteArray) (x4_1 : Int), v3 = .string x3_1 ∧ v4 = .int .i64 x4_1 ∧ Aside0 (bulletinref35_Of.l0 kq l0 x3_1 x4_1 = some (r1, r2, r3)) ∧ Aside0 (kq ≤ k) ∧ Aside0 (w'.heap[gb914]? = some (.cells #[.int .i64 0, .int .i64 0, .string (⟨#[]⟩ : ByteArray)] 65 (0, 0))) ∧ Aside0 (Below w.heap.size w w'))
 case atStart => exact ⟨((⟨#[]⟩ : ByteArray)), (0), cl, cl, H', ⟨Nat.le_refl _⟩, ⟨bk⟩, ⟨bwS⟩⟩
 case round =>
  clear H'
  try clear p2
  obtain ⟨x3_1, x4_1, rfl, rfl, HA, HK1, BK914, HB⟩ := hrel; cases gk with
  | zero => exact absurd HA.out (by simp [bulletinref35_Of.l0])
  | succ k1 =>
   have H := HA.out; clear HA; simp only [bulletinref35_Of.l0] at H
   by_cases c3 : x4_1 < (l0.length : Int)
   ·rw [if_pos c3] at H; have c3b0 := decide_eq_true c3; clear c3
    by_cases c4 : x4_1 > 0
    ·rw [if_pos c4] at H; have c4b0 : decide (0 < x4_1) = true := decide_eq_true c4; clear c4
     by_cases c5 : x3_1.size + 1 ≤ 9223372036854775807
     ·rw [if_pos c5] at H; have c5b0 := eq_true c5; have c5b1 := decide_eq_true c5
      try have c5b2 : (9223372036854775807 < x3_1.size + 1) = False := eq_false (Nat.not_lt.2 c5)
      by_cases c6 : 0 ≤ x4_1
      ·rw [if_pos c6] at H; have c6b0 := decide_eq_true c6; clear c6
       by_cases c7 : (x3_1 ++ (⟨#[32]⟩ : ByteArray)).size + (rdOf ByteArray.empty l0 x4_1).size ≤ 9223372036854775807
       ·rw [if_pos c7] at H; have c7b0 := eq_true c7; have c7b1 := decide_eq_true c7
        try have c7b2 : (9223372036854775807 < (x3_1 ++ (⟨#[32]⟩ : ByteArray)).size + (rdOf ByteArray.empty l0 x4_1).size) = False := eq_false (Nat.not_lt.2 c7)
        try (have c7b3 := c7; simp only [ByteArray.size_append, size_lit, ByteArray.size_extract, List.size_toArray, List.length_cons, List.length_nil, Nat.zero_add, Nat.reduceAdd] at c7b3; have c7b4 := eq_false (Nat.not_lt.2 c7b3))
        have H' := Aside0.mk H; clear H; have p915 : 0 ≤ (x4_1 : Int) := od; have q915 : x4_1 < (l0.length : Int) := od; obtain ⟨ad915, e915, hx915_0⟩ := Kd.at_string HR0.out x4_1 p915 q915; cases e915; replace hx915_0 := (HB.out.cell (World.block_lt_of_cell? w _ hx915_0)).trans hx915_0; replace p915 := eq_true p915; replace q915 := eq_true q915
        go_wp2
        go_roundg k1
        case measure => have := HK1.out; omega
        case rel => exact ⟨((x3_1 ++ (⟨#[32]⟩ : ByteArray)) ++ (rdOf ByteArray.empty l0 x4_1)), (wrap64 (x4_1 + 1)), cl, cl, H', ⟨by have := HK1.out; omega⟩, ⟨bk⟩, ⟨bwS⟩⟩
       rw [if_neg c7] at H; exact absurd H (by simp)
      rw [if_neg c6] at H; exact absurd H (by simp)
     rw [if_neg c5] at H; exact absurd H (by simp)
    rw [if_neg c4] at H; have c4b0 : decide (0 < x4_1) = false := decide_eq_false c4; clear c4
    by_cases c8 : 0 ≤ x4_1
    ·rw [if_pos c8] at H; have c8b0 := decide_eq_true c8; clear c8
     by_cases c9 : x3_1.size + (rdOf ByteArray.empty l0 x4_1).size ≤ 9223372036854775807
     ·rw [if_pos c9] at H; have c9b0 := eq_true c9; have c9b1 := decide_eq_true c9
      try have c9b2 : (9223372036854775807 < x3_1.size + (rdOf ByteArray.empty l0 x4_1).size) = False := eq_false (Nat.not_lt.2 c9)
      have H' := Aside0.mk H; clear H; have p916 : 0 ≤ (x4_1 : Int) := od; have q916 : x4_1 < (l0.length : Int) := od; obtain ⟨ad916, e916, hx916_0⟩ := Kd.at_string HR0.out x4_1 p916 q916; cases e916; replace hx916_0 := (HB.out.cell (World.block_lt_of_cell? w _ hx916_0)).trans hx916_0; replace p916 := eq_true p916; replace q916 := eq_true q916
      go_wp2
      go_roundg k1
      case measure => have := HK1.out; omega
      case rel => exact ⟨(x3_1 ++ (rdOf ByteArray.empty l0 x4_1)), (wrap64 (x4_1 + 1)), cl, cl, H', ⟨by have := HK1.out; omega⟩, ⟨bk⟩, ⟨bwS⟩⟩
     rw [if_neg c9] at H; exact absurd H (by simp)
    rw [if_neg c8] at H; exact absurd H (by simp)
   rw [if_neg c3] at H; have c3b0 := decide_eq_false c3; clear c3; have HC10 := Aside0.mk H; clear H
   go_upto_region 8 with (fail)
   go_cut [28] (fun v28 wc => ∃ (kq : Nat) (x28_9 : Bool), v28 = .bool x28_9 ∧ Aside0 (bulletinref35_Of.j1 kq x3_1 x28_9 = some (r1, r2, r3)) ∧ Aside0 (kq ≤ k1) ∧ Aside0 (wc.heap[gb914]? = some (.cells #[.int .i64 0, .int .i64 0, .string (⟨#[]⟩ : ByteArray)] 65 (0, 0))) ∧ Aside0 (Below w.heap.size w wc))
   case first =>
    have H := HC10.out; clear HC10
    by_cases c11 : x3_1.toList = ([104, 101, 108, 112] : List UInt8)
    ·rw [if_pos c11] at H; have c11b0 := beq_iff_eq.mpr c11; have c11b1 := bne_eq_false_iff_eq.mpr c11; clear c11
     (first | rw [c11b0] | (simp only [i64_w, i32_w]; rw [c11b0]) | skip)
     have H' := Aside0.mk H; clear H
     go_wp2
     go_meet
     case rel => exact ⟨_, (true), cl, H', ⟨by have := HK1.out; first | omega | exact Nat.le_refl _⟩, ⟨bk⟩, ⟨bwS⟩⟩
    rw [if_neg c11] at H; have c11b0 := beq_eq_false_iff_ne.mpr c11; have c11b1 := bne_iff_ne.mpr c11
    (first | rw [c11b0] | (simp only [i64_w, i32_w]; rw [c11b0]) | skip)
    have H' := Aside0.mk H; clear H
    go_wp2
    go_meet
    case rel => exact ⟨_, ((x3_1.toList == ([105, 110, 102, 111] : List UInt8))), cl, H', ⟨by have := HK1.out; first | omega | exact Nat.le_refl _⟩, ⟨bk⟩, ⟨bwS⟩⟩
   case rest =>
    clear HC10
    try clear c1
    try clear p2
    try clear c3
    try clear c3b0
    try clear c4
    try clear c4b0
    try clear c5
    try clear c5b0
    try clear c5b1
    try clear c5b2
    try clear c6
    try clear c6b0
    try clear p6
    try clear c7
    try clear c7b0
    try clear c7b1
    try clear c7b2
    try clear c8
    try clear c8b0
    try clear c9
    try clear c9b0
    try clear c9b1
    try clear c9b2
    try clear p9
    try clear q9
    try clear hx9
    try clear c11
    try clear c11b0
    try clear c11b1
    try clear hx915_0
    try clear hx916_0
    try clear p2
    try clear p915
    try clear p916
    try clear q915
    try clear q916
    obtain ⟨kq, x28_9, rfl, HA, HJ9, BK914, HB⟩ := hcut; cases kq with
    | zero => exact absurd HA.out (by simp [bulletinref35_Of.j1])
    | succ kj9 =>
     have H := HA.out; clear HA; simp only [bulletinref35_Of.j1] at H
     by_cases c12 : x28_9 = true
     ·subst c12; rw [if_pos rfl] at H; simp only [Option.some.injEq, Prod.mk.injEq] at H; obtain ⟨rfl, rfl, rfl⟩ := H; obtain ⟨hcz13_0, hcz13_1, hcz13_2, hfz13_0, hfz13_1, hfz13_2⟩ := bk3 BK914.out
      go_wp2
      refine bodyPost_ret (results_cell_row rfl _ _ gb914 65 #[.int .i64 1, .int .i64 0, .string (⟨#[]⟩ : ByteArray)] (0, 0) _ rfl (by (with_reducible repeat (first | refine blk_drewN ?_ _ | refine blk_drew ?_ | refine blk_alloc ?_ _)); refine blk_put (cs := #[.int .i64 1, .int .i64 0, .string (⟨#[]⟩ : ByteArray)]) ?_ 2 _ rfl; (with_reducible repeat (first | refine blk_drewN ?_ _ | refine blk_drew ?_ | refine blk_alloc ?_ _)); refine blk_put (cs := #[.int .i64 1, .int .i64 0, .string (⟨#[]⟩ : ByteArray)]) ?_ 1 _ rfl; (with_reducible repeat (first | refine blk_drewN ?_ _ | refine blk_drew ?_ | refine blk_alloc ?_ _)); exact blk_put (cs := #[.int .i64 0, .int .i64 0, .string (⟨#[]⟩ : ByteArray)]) bk 0 _ rfl) Tryz.underlying65 rfl (by kernel_rfl)) rfl ?_; exact ⟨ew, bwS⟩
     replace c12 := Bool.eq_false_iff.mpr c12; subst c12; rw [if_neg nft] at H; have HC14 := Aside0.mk H; clear H
     go_upto_region 10 with (fail)
     go_cut [35] (fun v35 wc => ∃ (kq : Nat) (x35_13 : Bool), v35 = .bool x35_13 ∧ Aside0 (bulletinref35_Of.j2 kq x3_1 x35_13 = some (r1, r2, r3)) ∧ Aside0 (kq ≤ kj9) ∧ Aside0 (wc.heap[gb914]? = some (.cells #[.int .i64 0, .int .i64 0, .string (⟨#[]⟩ : ByteArray)] 65 (0, 0))) ∧ Aside0 (Below w.heap.size w wc))
     case first =>
      have H := HC14.out; clear HC14
      by_cases c15 : x3_1.toList = ([106, 111, 105, 110] : List UInt8)
      ·rw [if_pos c15] at H; have c15b0 := beq_iff_eq.mpr c15; have c15b1 := bne_eq_false_iff_eq.mpr c15; clear c15
       (first | rw [c15b0] | (simp only [i64_w, i32_w]; rw [c15b0]) | skip)
       have H' := Aside0.mk H; clear H
       go_wp2
       go_meet
       case rel => exact ⟨_, (true), cl, H', ⟨by have := HK1.out; have := HJ9.out; first | omega | exact Nat.le_refl _⟩, ⟨bk⟩, ⟨bwS⟩⟩
      rw [if_neg c15] at H; have c15b0 := beq_eq_false_iff_ne.mpr c15; have c15b1 := bne_iff_ne.mpr c15
      (first | rw [c15b0] | (simp only [i64_w, i32_w]; rw [c15b0]) | skip)
      have H' := Aside0.mk H; clear H
      go_wp2
      go_meet
      case rel => exact ⟨_, ((x3_1.toList == ([115, 117, 98, 115, 99, 114, 105, 98, 101] : List UInt8))), cl, H', ⟨by have := HK1.out; have := HJ9.out; first | omega | exact Nat.le_refl _⟩, ⟨bk⟩, ⟨bwS⟩⟩
     case rest =>
      clear HC14
      try clear c1
      try clear p2
      try clear c3
      try clear c3b0
      try clear c4
      try clear c4b0
      try clear c5
      try clear c5b0
      try clear c5b1
      try clear c5b2
      try clear c6
      try clear c6b0
      try clear p6
      try clear c7
      try clear c7b0
      try clear c7b1
      try clear c7b2
      try clear c8
      try clear c8b0
      try clear c9
      try clear c9b0
      try clear c9b1
      try clear c9b2
      try clear p9
      try clear q9
      try clear hx9
      try clear c11
      try clear c11b0
      try clear c11b1
      try clear c12
      try clear c15
      try clear c15b0
      try clear c15b1
      try clear hcz13_0
      try clear hcz13_1
      try clear hcz13_2
      try clear hfz13_0
      try clear hfz13_1
      try clear hfz13_2
      try clear hx915_0
      try clear hx916_0
      try clear p2
      try clear p6
      try clear p9
      try clear p915
      try clear p916
      try clear q9
      try clear q915
      try clear q916
      obtain ⟨kq, x35_13, rfl, HA, HJ13, BK914, HB⟩ := hcut; cases kq with
      | zero => exact absurd HA.out (by simp [bulletinref35_Of.j2])
      | succ kj13 =>
       have H := HA.out; clear HA; simp only [bulletinref35_Of.j2] at H
       by_cases c16 : x35_13 = true
       ·subst c16; rw [if_pos rfl] at H; simp only [Option.some.injEq, Prod.mk.injEq] at H; obtain ⟨rfl, rfl, rfl⟩ := H; obtain ⟨hcz17_0, hcz17_1, hcz17_2, hfz17_0, hfz17_1, hfz17_2⟩ := bk3 BK914.out
        go_wp2
        refine bodyPost_ret (results_cell_row rfl _ _ gb914 65 #[.int .i64 2, .int .i64 1, .string (⟨#[]⟩ : ByteArray)] (0, 0) _ rfl (by (with_reducible repeat (first | refine blk_drewN ?_ _ | refine blk_drew ?_ | refine blk_alloc ?_ _)); refine blk_put (cs := #[.int .i64 2, .int .i64 1, .string (⟨#[]⟩ : ByteArray)]) ?_ 2 _ rfl; (with_reducible repeat (first | refine blk_drewN ?_ _ | refine blk_drew ?_ | refine blk_alloc ?_ _)); refine blk_put (cs := #[.int .i64 2, .int .i64 0, .string (⟨#[]⟩ : ByteArray)]) ?_ 1 _ rfl; (with_reducible repeat (first | refine blk_drewN ?_ _ | refine blk_drew ?_ | refine blk_alloc ?_ _)); exact blk_put (cs := #[.int .i64 0, .int .i64 0, .string (⟨#[]⟩ : ByteArray)]) bk 0 _ rfl) Tryz.underlying65 rfl (by kernel_rfl)) rfl ?_; exact ⟨ew, bwS⟩
       replace c16 := Bool.eq_false_iff.mpr c16; subst c16; rw [if_neg nft] at H; have HC18 := Aside0.mk H; clear H
       go_upto_region 12 with (fail)
       go_cut [46] (fun v46 wc => ∃ (kq : Nat) (x46_17 : Bool), v46 = .bool x46_17 ∧ Aside0 (bulletinref35_Of.j3 kq x3_1 x46_17 = some (r1, r2, r3)) ∧ Aside0 (kq ≤ kj13) ∧ Aside0 (wc.heap[gb914]? = some (.cells #[.int .i64 0, .int .i64 0, .string (⟨#[]⟩ : ByteArray)] 65 (0, 0))) ∧ Aside0 (Below w.heap.size w wc))
       case first =>
        have H := HC18.out; clear HC18
        by_cases c19 : x3_1.toList = ([108, 101, 97, 118, 101] : List UInt8)
        ·rw [if_pos c19] at H; have c19b0 := beq_iff_eq.mpr c19; have c19b1 := bne_eq_false_iff_eq.mpr c19; clear c19
         (first | rw [c19b0] | (simp only [i64_w, i32_w]; rw [c19b0]) | skip)
         have H' := Aside0.mk H; clear H
         go_wp2
         go_meet
         case rel => exact ⟨_, (true), cl, H', ⟨by have := HK1.out; have := HJ9.out; have := HJ13.out; first | omega | exact Nat.le_refl _⟩, ⟨bk⟩, ⟨bwS⟩⟩
        rw [if_neg c19] at H; have c19b0 := beq_eq_false_iff_ne.mpr c19; have c19b1 := bne_iff_ne.mpr c19
        (first | rw [c19b0] | (simp only [i64_w, i32_w]; rw [c19b0]) | skip)
        by_cases c20 : x3_1.toList = ([117, 110, 115, 117, 98, 115, 99, 114, 105, 98, 101] : List UInt8)
        ·rw [if_pos c20] at H; have c20b0 := beq_iff_eq.mpr c20; have c20b1 := bne_eq_false_iff_eq.mpr c20; clear c20; have H' := Aside0.mk H; clear H
         go_wp2
         go_meet
         case rel => exact ⟨_, (true), cl, H', ⟨by have := HK1.out; have := HJ9.out; have := HJ13.out; first | omega | exact Nat.le_refl _⟩, ⟨bk⟩, ⟨bwS⟩⟩
        rw [if_neg c20] at H; have c20b0 := beq_eq_false_iff_ne.mpr c20; have c20b1 := bne_iff_ne.mpr c20; have H' := Aside0.mk H; clear H
        go_wp2
        go_meet
        case rel => exact ⟨_, ((x3_1.toList == ([114, 101, 109, 111, 118, 101] : List UInt8))), cl, H', ⟨by have := HK1.out; have := HJ9.out; have := HJ13.out; first | omega | exact Nat.le_refl _⟩, ⟨bk⟩, ⟨bwS⟩⟩
       case rest =>
        clear HC18
        try clear c1
        try clear c2
        try clear p2
        try clear c3
        try clear c3b0
        try clear c4
        try clear c4b0
        try clear c5
        try clear c5b0
        try clear c5b1
        try clear c5b2
        try clear c6
        try clear c6b0
        try clear p6
        try clear c7
        try clear c7b0
        try clear c7b1
        try clear c7b2
        try clear c8
        try clear c8b0
        try clear c9
        try clear c9b0
        try clear c9b1
        try clear c9b2
        try clear p9
        try clear q9
        try clear hx9
        try clear c11
        try clear c11b0
        try clear c11b1
        try clear c12
        try clear c15
        try clear c15b0
        try clear c15b1
        try clear c16
        try clear c19
        try clear c19b0
        try clear c19b1
        try clear c20
        try clear c20b0
        try clear c20b1
        try clear hcz13_0
        try clear hcz13_1
        try clear hcz13_2
        try clear hcz17_0
        try clear hcz17_1
        try clear hcz17_2
        try clear hfz13_0
        try clear hfz13_1
        try clear hfz13_2
        try clear hfz17_0
        try clear hfz17_1
        try clear hfz17_2
        try clear hx915_0
        try clear hx916_0
        try clear p2
        try clear p6
        try clear p9
        try clear p915
        try clear p916
        try clear q9
        try clear q915
        try clear q916
        obtain ⟨kq, x46_17, rfl, HA, HJ17, BK914, HB⟩ := hcut; cases kq with
        | zero => exact absurd HA.out (by simp [bulletinref35_Of.j3])
        | succ kj17 =>
         have H := HA.out; clear HA; simp only [bulletinref35_Of.j3] at H
         by_cases c21 : x46_17 = true
         ·subst c21; rw [if_pos rfl] at H; simp only [Option.some.injEq, Prod.mk.injEq] at H; obtain ⟨rfl, rfl, rfl⟩ := H; obtain ⟨hcz22_0, hcz22_1, hcz22_2, hfz22_0, hfz22_1, hfz22_2⟩ := bk3 BK914.out
          go_wp2
          refine bodyPost_ret (results_cell_row rfl _ _ gb914 65 #[.int .i64 3, .int .i64 0, .string (⟨#[]⟩ : ByteArray)] (0, 0) _ rfl (by (with_reducible repeat (first | refine blk_drewN ?_ _ | refine blk_drew ?_ | refine blk_alloc ?_ _)); refine blk_put (cs := #[.int .i64 3, .int .i64 0, .string (⟨#[]⟩ : ByteArray)]) ?_ 2 _ rfl; (with_reducible repeat (first | refine blk_drewN ?_ _ | refine blk_drew ?_ | refine blk_alloc ?_ _)); refine blk_put (cs := #[.int .i64 3, .int .i64 0, .string (⟨#[]⟩ : ByteArray)]) ?_ 1 _ rfl; (with_reducible repeat (first | refine blk_drewN ?_ _ | refine blk_drew ?_ | refine blk_alloc ?_ _)); exact blk_put (cs := #[.int .i64 0, .int .i64 0, .string (⟨#[]⟩ : ByteArray)]) bk 0 _ rfl) Tryz.underlying65 rfl (by kernel_rfl)) rfl ?_; exact ⟨ew, bwS⟩
         replace c21 := Bool.eq_false_iff.mpr c21; subst c21; rw [if_neg nft] at H; have H' := Aside0.mk H; clear H
         go_wp2
         go_loopg [5] kj17 (fun kq v5 w' => ∃ (x5_5 : Int) (x915000_5 : Int) (x915001_5 : Int) (x915002_5 : ByteArray), v5 = .int .i64 x5_5 ∧ Aside0 (bulletinref35_Of.l1 kq x3_1 x5_5 = some (r1, r2, r3)) ∧ Aside0 (kq ≤ kj17) ∧ Aside0 (w'.heap[gb914]? = some (.cells #[.int .i64 x915000_5, .int .i64 x915001_5, .string x915002_5] 65 (0, 0))) ∧ Aside0 (Below w.heap.size w w'))
         case atStart => exact ⟨(1), (0), (0), ((⟨#[]⟩ : ByteArray)), cl, H', ⟨Nat.le_refl _⟩, ⟨bk⟩, ⟨bwS⟩⟩
         case round =>
          clear H'
          try clear c1
          try clear c2
          try clear p2
          try clear c3
          try clear c3b0
          try clear c4
          try clear c4b0
          try clear c5
          try clear c5b0
          try clear c5b1
          try clear c5b2
          try clear c6
          try clear c6b0
          try clear p6
          try clear c7
          try clear c7b0
          try clear c7b1
          try clear c7b2
          try clear c8
          try clear c8b0
          try clear c9
          try clear c9b0
          try clear c9b1
          try clear c9b2
          try clear p9
          try clear q9
          try clear hx9
          try clear c11
          try clear c11b0
          try clear c11b1
          try clear c12
          try clear c15
          try clear c15b0
          try clear c15b1
          try clear c16
          try clear c19
          try clear c19b0
          try clear c19b1
          try clear c20
          try clear c20b0
          try clear c20b1
          try clear c21
          try clear hcz13_0
          try clear hcz13_1
          try clear hcz13_2
          try clear hcz17_0
          try clear hcz17_1
          try clear hcz17_2
          try clear hcz22_0
          try clear hcz22_1
          try clear hcz22_2
          try clear hfz13_0
          try clear hfz13_1
          try clear hfz13_2
          try clear hfz17_0
          try clear hfz17_1
          try clear hfz17_2
          try clear hfz22_0
          try clear hfz22_1
          try clear hfz22_2
          try clear hx915_0
          try clear hx916_0
          try clear p2
          try clear p6
          try clear p9
          try clear p915
          try clear p916
          try clear q9
          try clear q915
          try clear q916
          obtain ⟨x5_5, x915000_5, x915001_5, x915002_5, rfl, HA, HK5, BK914, HB⟩ := hrel; cases gk with
          | zero => exact absurd HA.out (by simp [bulletinref35_Of.l1])
          | succ k5 =>
           have H := HA.out; clear HA; simp only [bulletinref35_Of.l1] at H
           by_cases c23 : x5_5 ≤ 3
           ·rw [if_pos c23] at H; have c23b0 := decide_eq_true c23; clear c23; replace H := Option.bind_eq_some_iff.mp H; obtain ⟨t918, A240, H⟩ := H; have A24 := Aside0.mk A240; clear A240; have HC25 := Aside0.mk H; clear H
            go_upto_region 18 with (first | ((with_reducible refine gate_callee (f := 101) rfl ?_); refine goesL_ (some 53) rfl rfl Tryz.func101 (by kernel_rfl) rfl #[.int .i64 x5_5] rfl am ?_; (with_reducible refine (bulletinref33_Word.calls x5_5 t918 _ A24.out).mono ?_); rintro e w26 ⟨rfl, hb⟩; refine ⟨_, rfl, ?_⟩; have n0_ := Aside0.mk (blk_below (g := gb914) (o := .cells #[.int .i64 x915000_5, .int .i64 x915001_5, .string x915002_5] 65 (0, 0)) bk hb); have n1_ := Aside0.mk (below_step bwS hb); clear BK914; clear HB; have BK914 := n0_; have HB := n1_; clear n0_ n1_; (try clear hb); (try clear hb2); (try clear hk); (try clear hi)))
            (try simp only [Act.put, List.setIfInBounds_toArray, List.set_cons_zero, List.set_cons_succ])
            go_cut [63] (fun v63 wc => ∃ (kq : Nat) (x63_24 : Bool), v63 = .bool x63_24 ∧ Aside0 (bulletinref35_Of.j5 kq x3_1 x5_5 t918 x63_24 = some (r1, r2, r3)) ∧ Aside0 (kq ≤ k5) ∧ Aside0 (wc.heap[gb914]? = some (.cells #[.int .i64 x915000_5, .int .i64 x915001_5, .string x915002_5] 65 (0, 0))) ∧ Aside0 (Below w.heap.size w wc))
            case first =>
             have H := HC25.out; clear HC25
             by_cases c27 : 5 + t918.size ≤ 9223372036854775807
             ·rw [if_pos c27] at H; have c27b0 := eq_true c27; have c27b1 := decide_eq_true c27
              try have c27b2 : (9223372036854775807 < 5 + t918.size) = False := eq_false (Nat.not_lt.2 c27)
              by_cases c28 : x3_1.toList = ((⟨#[106, 111, 105, 110, 32]⟩ : ByteArray) ++ t918).toList
              ·rw [if_pos c28] at H; have c28b0 := beq_iff_eq.mpr c28; have c28b1 := bne_eq_false_iff_eq.mpr c28; clear c28
               (first | rw [c28b0] | (simp only [i64_w, i32_w]; rw [c28b0]) | skip)
               have H' := Aside0.mk H; clear H
               go_wp2
               go_meet
               case rel => exact ⟨_, (true), cl, H', ⟨by have := HK1.out; have := HJ9.out; have := HJ13.out; have := HJ17.out; have := HK5.out; first | omega | exact Nat.le_refl _⟩, ⟨bk⟩, ⟨bwS⟩⟩
              rw [if_neg c28] at H; have c28b0 := beq_eq_false_iff_ne.mpr c28; have c28b1 := bne_iff_ne.mpr c28
              (first | rw [c28b0] | (simp only [i64_w, i32_w]; rw [c28b0]) | skip)
              by_cases c29 : 10 + t918.size ≤ 9223372036854775807
              ·rw [if_pos c29] at H; have c29b0 := eq_true c29; have c29b1 := decide_eq_true c29
               try have c29b2 : (9223372036854775807 < 10 + t918.size) = False := eq_false (Nat.not_lt.2 c29)
               have H' := Aside0.mk H; clear H
               go_wp2
               go_meet
               case rel => exact ⟨_, ((x3_1.toList == ((⟨#[115, 117, 98, 115, 99, 114, 105, 98, 101, 32]⟩ : ByteArray) ++ t918).toList)), cl, H', ⟨by have := HK1.out; have := HJ9.out; have := HJ13.out; have := HJ17.out; have := HK5.out; first | omega | exact Nat.le_refl _⟩, ⟨bk⟩, ⟨bwS⟩⟩
              rw [if_neg c29] at H; exact absurd H (by simp)
             rw [if_neg c27] at H; exact absurd H (by simp)
            case rest =>
             clear HC25
             try clear c1
             try clear c2
             try clear p2
             try clear c3
             try clear c3b0
             try clear c4
             try clear c4b0
             try clear c5
             try clear c5b0
             try clear c5b1
             try clear c5b2
             try clear c6
             try clear c6b0
             try clear p6
             try clear c7
             try clear c7b0
             try clear c7b1
             try clear c7b2
             try clear c8
             try clear c8b0
             try clear c9
             try clear c9b0
             try clear c9b1
             try clear c9b2
             try clear p9
             try clear q9
             try clear hx9
             try clear c10
             try clear c11
             try clear c11b0
             try clear c11b1
             try clear c12
             try clear c15
             try clear c15b0
             try clear c15b1
             try clear c16
             try clear c19
             try clear c19b0
             try clear c19b1
             try clear c20
             try clear c20b0
             try clear c20b1
             try clear c21
             try clear c23
             try clear c23b0
             try clear c27
             try clear c27b0
             try clear c27b1
             try clear c27b2
             try clear c28
             try clear c28b0
             try clear c28b1
             try clear c29
             try clear c29b0
             try clear c29b1
             try clear c29b2
             try clear hcz13_0
             try clear hcz13_1
             try clear hcz13_2
             try clear hcz17_0
             try clear hcz17_1
             try clear hcz17_2
             try clear hcz22_0
             try clear hcz22_1
             try clear hcz22_2
             try clear hfz13_0
             try clear hfz13_1
             try clear hfz13_2
             try clear hfz17_0
             try clear hfz17_1
             try clear hfz17_2
             try clear hfz22_0
             try clear hfz22_1
             try clear hfz22_2
             try clear hx915_0
             try clear hx916_0
             try clear p2
             try clear p6
             try clear p9
             try clear p915
             try clear p916
             try clear q9
             try clear q915
             try clear q916
             obtain ⟨kq, x63_24, rfl, HA, HJ24, BK914, HB⟩ := hcut; cases kq with
             | zero => exact absurd HA.out (by simp [bulletinref35_Of.j5])
             | succ kj24 =>
              have H := HA.out; clear HA; simp only [bulletinref35_Of.j5] at H
              by_cases c30 : x63_24 = true
              ·subst c30; rw [if_pos rfl] at H; simp only [Option.some.injEq, Prod.mk.injEq] at H; obtain ⟨rfl, rfl, rfl⟩ := H; obtain ⟨hcz31_0, hcz31_1, hcz31_2, hfz31_0, hfz31_1, hfz31_2⟩ := bk3 BK914.out
               go_wp2
               refine bodyPost_ret (results_cell_row rfl _ _ gb914 65 #[.int .i64 2, .int .i64 x5_5, .string (⟨#[]⟩ : ByteArray)] (0, 0) _ rfl (by (with_reducible repeat (first | refine blk_drewN ?_ _ | refine blk_drew ?_ | refine blk_alloc ?_ _)); refine blk_put (cs := #[.int .i64 2, .int .i64 x5_5, .string x915002_5]) ?_ 2 _ rfl; (with_reducible repeat (first | refine blk_drewN ?_ _ | refine blk_drew ?_ | refine blk_alloc ?_ _)); refine blk_put (cs := #[.int .i64 2, .int .i64 x915001_5, .string x915002_5]) ?_ 1 _ rfl; (with_reducible repeat (first | refine blk_drewN ?_ _ | refine blk_drew ?_ | refine blk_alloc ?_ _)); exact blk_put (cs := #[.int .i64 x915000_5, .int .i64 x915001_5, .string x915002_5]) bk 0 _ rfl) Tryz.underlying65 rfl (by kernel_rfl)) rfl ?_; exact ⟨ew, bwS⟩
              replace c30 := Bool.eq_false_iff.mpr c30; subst c30; rw [if_neg nft] at H
              by_cases c32 : 4 + t918.size ≤ 9223372036854775807
              ·rw [if_pos c32] at H; have c32b0 := eq_true c32; have c32b1 := decide_eq_true c32
               try have c32b2 : (9223372036854775807 < 4 + t918.size) = False := eq_false (Nat.not_lt.2 c32)
               by_cases c33 : x3_1.toList = ((⟨#[115, 101, 116, 32]⟩ : ByteArray) ++ t918).toList
               ·rw [if_pos c33] at H; have c33b0 := beq_iff_eq.mpr c33; have c33b1 := bne_eq_false_iff_eq.mpr c33; clear c33; simp only [Option.some.injEq, Prod.mk.injEq] at H; obtain ⟨rfl, rfl, rfl⟩ := H; obtain ⟨hcz34_0, hcz34_1, hcz34_2, hfz34_0, hfz34_1, hfz34_2⟩ := bk3 BK914.out
                go_wp2
                refine bodyPost_ret (results_cell_row rfl _ _ gb914 65 #[.int .i64 4, .int .i64 x5_5, .string (⟨#[]⟩ : ByteArray)] (0, 0) _ rfl (by (with_reducible repeat (first | refine blk_drewN ?_ _ | refine blk_drew ?_ | refine blk_alloc ?_ _)); refine blk_put (cs := #[.int .i64 4, .int .i64 x5_5, .string x915002_5]) ?_ 2 _ rfl; (with_reducible repeat (first | refine blk_drewN ?_ _ | refine blk_drew ?_ | refine blk_alloc ?_ _)); refine blk_put (cs := #[.int .i64 4, .int .i64 x915001_5, .string x915002_5]) ?_ 1 _ rfl; (with_reducible repeat (first | refine blk_drewN ?_ _ | refine blk_drew ?_ | refine blk_alloc ?_ _)); exact blk_put (cs := #[.int .i64 x915000_5, .int .i64 x915001_5, .string x915002_5]) bk 0 _ rfl) Tryz.underlying65 rfl (by kernel_rfl)) rfl ?_; exact ⟨ew, bwS⟩
               rw [if_neg c33] at H; have c33b0 := beq_eq_false_iff_ne.mpr c33; have c33b1 := bne_iff_ne.mpr c33; have H' := Aside0.mk H; clear H
               go_wp2
               go_roundg kj24
               case measure => have := HK1.out; have := HJ9.out; have := HJ13.out; have := HJ17.out; have := HK5.out; have := HJ24.out; omega
               case rel => exact ⟨(wrap64 (x5_5 + 1)), (x915000_5), (x915001_5), (x915002_5), cl, H', ⟨by have := HK1.out; have := HJ9.out; have := HJ13.out; have := HJ17.out; have := HK5.out; have := HJ24.out; omega⟩, ⟨bk⟩, ⟨bwS⟩⟩
              rw [if_neg c32] at H; exact absurd H (by simp)
           rw [if_neg c23] at H; have c23b0 := decide_eq_false c23; clear c23; replace H := Option.bind_eq_some_iff.mp H; obtain ⟨t917, A350, H⟩ := H; have A35 := Aside0.mk A350; clear A350; simp only [Option.some.injEq, Prod.mk.injEq] at H; obtain ⟨rfl, rfl, rfl⟩ := H
           go_wp2_with (first | ((with_reducible refine gate_callee (f := 102) rfl ?_); refine goesL_ (some 73) rfl rfl Tryz.func102 (by kernel_rfl) rfl #[.string x3_1, .int .i64 30] rfl am ?_; (with_reducible refine (bulletinref06_Clip.calls k5 x3_1 30 t917 _ A35.out).mono ?_); rintro e w36 ⟨rfl, hb⟩; refine ⟨_, rfl, ?_⟩; have n0_ := Aside0.mk (blk_below (g := gb914) (o := .cells #[.int .i64 x915000_5, .int .i64 x915001_5, .string x915002_5] 65 (0, 0)) bk hb); have n1_ := Aside0.mk (below_step bwS hb); clear BK914; clear HB; have BK914 := n0_; have HB := n1_; clear n0_ n1_; (try clear hb); (try clear hb2); (try clear hk); (try clear hi); have hcz37_0 : w36.cell? ⟨gb914, 0, none⟩ = some (.int .i64 x915000_5) := (blk_cell BK914.out 0).trans rfl; have hcz37_1 : w36.cell? ⟨gb914, 1, none⟩ = some (.int .i64 x915001_5) := (blk_cell BK914.out 1).trans rfl; have hcz37_2 : w36.cell? ⟨gb914, 2, none⟩ = some (.string x915002_5) := (blk_cell BK914.out 2).trans rfl; have hfz37_0 := blk_frozen BK914.out 0; have hfz37_1 := blk_frozen BK914.out 1; have hfz37_2 := blk_frozen BK914.out 2))
           refine bodyPost_ret (results_cell_row rfl _ _ gb914 65 #[.int .i64 5, .int .i64 0, .string t917] (0, 0) _ rfl (by (with_reducible repeat (first | refine blk_drewN ?_ _ | refine blk_drew ?_ | refine blk_alloc ?_ _)); refine blk_put (cs := #[.int .i64 5, .int .i64 0, .string x915002_5]) ?_ 2 _ rfl; (with_reducible repeat (first | refine blk_drewN ?_ _ | refine blk_drew ?_ | refine blk_alloc ?_ _)); refine blk_put (cs := #[.int .i64 5, .int .i64 x915001_5, .string x915002_5]) ?_ 1 _ rfl; (with_reducible repeat (first | refine blk_drewN ?_ _ | refine blk_drew ?_ | refine blk_alloc ?_ _)); exact blk_put (cs := #[.int .i64 x915000_5, .int .i64 x915001_5, .string x915002_5]) bk 0 _ rfl) Tryz.underlying65 rfl (by kernel_rfl)) rfl ?_; exact ⟨ew, bwS⟩

end Go.Proofs.YtihabmcaplnbcaaGreatDoor.Fn
