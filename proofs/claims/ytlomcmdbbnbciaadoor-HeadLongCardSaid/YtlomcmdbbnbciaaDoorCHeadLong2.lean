/- The law bulletinlaw15.HeadLong returns true for every input: lines of so many bytes, and so many fields, are taken up to the limits, and refused beyond, as the document has it; the tables of unicode/utf8 are as the program's text lays them. -/
import Derived.Test.YtlomcmdbbnbciaaDoorCHeadLong1
import Derived.Test.YtlomcmdbbnbciaaDoorRows
import Derived.Test.YtlomcmdbbnbciaaDoorTie
import Derived.Test.YtlomcmdbbnbciaaDoorCards
import Derived.WalkKit
import Derived.ProofKit
import Derived.OpenShut
import Derived.ShutString
import Derived.ChangeOld
import Derived.Below
import Derived.SizedLaws
import Derived.Lib.SmallJoins
import Derived.SevenTiedAt
-- written by xprint.py of this session over the kit's printer; not trusted: Lean checks it
namespace Go.Proofs.YtlomcmdbbnbciaaDoor.Fn
open Go.RowKit Go.Proofs.YtlomcmdbbnbciaaDoorW.PrintWords Go.Proofs.YtlomcmdbbnbciaaDoorW.PrintLast Go.Proofs.YtlomcmdbbnbciaaDoorW.PrintMore
attribute [local go_sem] max2_int min2_int max_two min_two max_three min_three max_four min_four   -- for this text's walks alone
set_option linter.unusedVariables false
set_option linter.unusedSimpArgs false

/-! ### bulletinref15_Parse: function 42 -/
mutual
def bulletinref15_Parse.l0 : Nat → ByteArray → List (S59) → ByteArray → Int → Option ((List (S59)) × ByteArray × Int)
 | 0, _, _, _, _ => none
 | k + 1, x0, x5, x6, x7 => if x7 < (x0.size : Int) then (if 0 ≤ x7 then (if x7 ≤ (x0.size : Int) then ((bulletinref15_line.f k (x0.extract (x7 : Int).toNat x0.size)).bind fun t558 => (if t558 < 0 then (some (([] : List (S59)), (⟨#[]⟩ : ByteArray), 9)) else (if x7 ≤ (wrap64 (x7 + t558)) then (if (wrap64 (x7 + t558)) ≤ (x0.size : Int) then (if t558 = 0 then (if 0 ≤ (wrap64 ((wrap64 (x7 + t558)) + 2)) then (if (wrap64 ((wrap64 (x7 + t558)) + 2)) ≤ (x0.size : Int) then (bulletinref15_Parse.l0 k x0 x5 (x0.extract ((wrap64 ((wrap64 (x7 + t558)) + 2)) : Int).toNat x0.size) (x0.size : Int)) else (none)) else (none)) else (if t558 > 998 then (some (([] : List (S59)), (⟨#[]⟩ : ByteArray), 2)) else ((bulletinref15_textual.f k (x0.extract (x7 : Int).toNat ((wrap64 (x7 + t558)) : Int).toNat)).bind fun t559 => (if t559 = true then (if 0 < ((x0.extract (x7 : Int).toNat ((wrap64 (x7 + t558)) : Int).toNat).size : Int) then ((bulletinref15_blank.f (bt (x0.extract (x7 : Int).toNat ((wrap64 (x7 + t558)) : Int).toNat) 0)).bind fun t560 => (if t560 = true then (if (x5.length : Int) = 0 then (some (([] : List (S59)), (⟨#[]⟩ : ByteArray), 150)) else (if 0 ≤ (wrap64 ((x5.length : Int) - 1)) then (if (wrap64 ((x5.length : Int) - 1)) < (x5.length : Int) then (if ((rd_T59 x5 (wrap64 ((x5.length : Int) - 1))).f1).size + (x0.extract (x7 : Int).toNat ((wrap64 (x7 + t558)) : Int).toNat).size ≤ 9223372036854775807 then (bulletinref15_Parse.l0 k x0 (x5.set ((wrap64 ((x5.length : Int) - 1)) : Int).toNat (⟨(rd_T59 x5 (wrap64 ((x5.length : Int) - 1))).f0, ((rd_T59 x5 (wrap64 ((x5.length : Int) - 1))).f1) ++ (x0.extract (x7 : Int).toNat ((wrap64 (x7 + t558)) : Int).toNat)⟩ : S59)) x6 (wrap64 ((wrap64 (x7 + t558)) + 2))) else (none)) else (none)) else (none))) else (bulletinref15_Parse.l1 k x0 x5 x6 (wrap64 ((wrap64 (x7 + t558)) + 2)) (x0.extract (x7 : Int).toNat ((wrap64 (x7 + t558)) : Int).toNat) 0))) else (none)) else (some (([] : List (S59)), (⟨#[]⟩ : ByteArray), 150)))))) else (none)) else (none)))) else (none)) else (none)) else (bulletinref15_Parse.l2 k x5 x6 0)
def bulletinref15_Parse.j2 : Nat → ByteArray → List (S59) → ByteArray → Int → ByteArray → Int → Option ((List (S59)) × ByteArray × Int)
 | 0, _, _, _, _, _, _ => none
 | k + 1, x0, x5, x6, x7, x9, x10 => if x10 = (x9.size : Int) then (bulletinref15_Parse.j3 k x0 x5 x6 x7 x9 x10 true) else (if 0 ≤ x10 then (if x10 ≤ (x9.size : Int) then ((bulletinref15_named.f k (x9.extract 0 (x10 : Int).toNat)).bind fun t563 => (bulletinref15_Parse.j3 k x0 x5 x6 x7 x9 x10 (!t563))) else (none)) else (none))
def bulletinref15_Parse.j3 : Nat → ByteArray → List (S59) → ByteArray → Int → ByteArray → Int → Bool → Option ((List (S59)) × ByteArray × Int)
 | 0, _, _, _, _, _, _, _ => none
 | k + 1, x0, x5, x6, x7, x9, x10, x87 => if x87 = true then (some (([] : List (S59)), (⟨#[]⟩ : ByteArray), 150)) else (if (x5.length : Int) = 100 then (some (([] : List (S59)), (⟨#[]⟩ : ByteArray), 8)) else (if 0 ≤ x10 then (if x10 ≤ (x9.size : Int) then (if 0 ≤ (wrap64 (x10 + 1)) then (if (wrap64 (x10 + 1)) ≤ (x9.size : Int) then (if x5.length < 4398046511104 then (bulletinref15_Parse.l0 k x0 (x5 ++ [(⟨x9.extract 0 (x10 : Int).toNat, x9.extract ((wrap64 (x10 + 1)) : Int).toNat x9.size⟩ : S59)]) x6 x7) else (none)) else (none)) else (none)) else (none)) else (none)))
def bulletinref15_Parse.l1 : Nat → ByteArray → List (S59) → ByteArray → Int → ByteArray → Int → Option ((List (S59)) × ByteArray × Int)
 | 0, _, _, _, _, _, _ => none
 | k + 1, x0, x5, x6, x7, x9, x10 => if x10 < (x9.size : Int) then (if 0 ≤ x10 then (if (bt x9 x10) = 58 then (bulletinref15_Parse.j2 k x0 x5 x6 x7 x9 x10) else (bulletinref15_Parse.l1 k x0 x5 x6 x7 x9 (wrap64 (x10 + 1)))) else (none)) else (bulletinref15_Parse.j2 k x0 x5 x6 x7 x9 x10)
def bulletinref15_Parse.l2 : Nat → List (S59) → ByteArray → Int → Option ((List (S59)) × ByteArray × Int)
 | 0, _, _, _ => none
 | k + 1, x5, x6, x11 => if x11 < (x5.length : Int) then (if 0 ≤ x11 then ((bulletinref15_Trim.f k ((rd_T59 x5 x11).f1)).bind fun t568 => (bulletinref15_Parse.l2 k (x5.set (x11 : Int).toNat (⟨(rd_T59 x5 x11).f0, t568⟩ : S59)) x6 (wrap64 (x11 + 1)))) else (none)) else (some (x5, x6, 0))
end
def bulletinref15_Parse.f (k : Nat) (a0 : ByteArray) : Option ((List (S59)) × ByteArray × Int) := bulletinref15_Parse.l0 k a0 ([] : List (S59)) (⟨#[]⟩ : ByteArray) 0
def bulletinref15_Parse.T28 : Bool × List (List Nat × List Nat) := (true, [([], []), ([], []), ([], []), ([1, 2], [1, 2]), ([], []), ([], []), ([5], [5]), ([4, 6], [4, 6]), ([3, 7], [3, 7]), ([8], [8]), ([0, 9], [0, 9]), ([10, 10, 0, 1, 2, 3, 4, 5, 6, 7, 8, 9, 10], [0, 10])])
def bulletinref15_Parse.B28 : List Nat := [0, 0, 0, 6, 0, 0, 32, 112, 254, 510, 1023, 2047]
theorem bulletinref15_Parse.tab28 : rtab .any (opsOf Tryd.f42 28) = bulletinref15_Parse.T28 := by kernel_rfl
theorem bulletinref15_Parse.bits28 : waitsOk bulletinref15_Parse.T28.2 bulletinref15_Parse.B28 = true := by kernel_rfl
set_option maxHeartbeats 8000000 in
set_option maxRecDepth 100000 in
theorem bulletinref15_Parse.calls (k : Nat) (a0 : ByteArray) (r1 : List (S59)) (r2 : ByteArray) (r3 : Int) (w : World) (h : bulletinref15_Parse.f k a0 = some (r1, r2, r3)) :
  Calls Tryd.prog 42 #[.string a0] w fun e w' => ∃ v0_ : Value, e = .returned (.tuple #[v0_, .string r2, .int .i64 r3]) ∧ Kd.R k59 59 w' w.heap.size (fun _ => True) v0_ r1 ∧ Below w.heap.size w w' := by
 have hu59 := Tryd.underlying59
 have HB := Aside0.mk (Below.refl w.heap.size w)
 have H : (bulletinref15_Parse.l0 k a0 ([] : List (S59)) (⟨#[]⟩ : ByteArray) 0) = some (r1, r2, r3) := h
 clear h
 have H' := Aside0.mk H
 clear H
 go_enter Tryd.func42, Tryd.ntmps42
 go_wp2
 go_loopg [5, 6, 7] k (fun kq v5 v6 v7 w' => ∃ (x5_1 : List (S59)) (x6_1 : ByteArray) (x7_1 : Int), v6 = .string x6_1 ∧ v7 = .int .i64 x7_1 ∧ Aside0 (bulletinref15_Parse.l0 kq a0 x5_1 x6_1 x7_1 = some (r1, r2, r3)) ∧ Aside0 (kq ≤ k) ∧ Aside0 (Kd.R k59 59 w' w.heap.size (fun _ => True) v5 x5_1) ∧ Aside0 (Below w.heap.size w w'))
 case atStart => exact ⟨(([] : List (S59))), ((⟨#[]⟩ : ByteArray)), (0), cl, cl, H', ⟨Nat.le_refl _⟩, ⟨by first | exact Kd.R_nil _ _ _ _ _ | exact Kd.N_nil _ _ _ _ _ | exact Kd.V_nil _ _ _ _ _ | exact Kd.Q_nil _ _ _ _ _ | exact Kd.S_nil _ _ _ _ _⟩, ⟨by repeat (first | (with_reducible first | exact HB.out | apply below_alloc | apply pw_below_drewN | apply below_drew1) | exact HB.out)⟩⟩
 case round =>
  clear H'
  obtain ⟨x5_1, x6_1, x7_1, rfl, rfl, HA, HK1, HO_5, HB⟩ := hrel
  cases gk with
  | zero => exact absurd HA.out (by simp [bulletinref15_Parse.l0])
  | succ k1 =>
   have H := HA.out
   clear HA
   simp only [bulletinref15_Parse.l0] at H
   by_cases c2 : x7_1 < (a0.size : Int)
   ·rw [if_pos c2] at H
    have c2b0 : decide (x7_1 < (a0.size : Int)) = true := decide_eq_true c2
    clear c2
    by_cases c3 : 0 ≤ x7_1
    ·rw [if_pos c3] at H
     have c3b0 := eq_true c3
     have c3b1 : decide (0 ≤ x7_1) = true := decide_eq_true c3
     clear c3
     by_cases c4 : x7_1 ≤ (a0.size : Int)
     ·rw [if_pos c4] at H
      have c4b0 := eq_true c4
      have c4b1 : decide (x7_1 ≤ (a0.size : Int)) = true := decide_eq_true c4
      clear c4
      replace H := Option.bind_eq_some_iff.mp H
      obtain ⟨t558, A50, H⟩ := H
      replace H : (if t558 < 0 then (some (([] : List (S59)), (⟨#[]⟩ : ByteArray), 9)) else (if x7_1 ≤ (wrap64 (x7_1 + t558)) then (if (wrap64 (x7_1 + t558)) ≤ (a0.size : Int) then (if t558 = 0 then (if 0 ≤ (wrap64 ((wrap64 (x7_1 + t558)) + 2)) then (if (wrap64 ((wrap64 (x7_1 + t558)) + 2)) ≤ (a0.size : Int) then (bulletinref15_Parse.l0 k1 a0 x5_1 (a0.extract ((wrap64 ((wrap64 (x7_1 + t558)) + 2)) : Int).toNat a0.size) (a0.size : Int)) else (none)) else (none)) else (if t558 > 998 then (some (([] : List (S59)), (⟨#[]⟩ : ByteArray), 2)) else ((bulletinref15_textual.f k1 (a0.extract (x7_1 : Int).toNat ((wrap64 (x7_1 + t558)) : Int).toNat)).bind fun t559 => (if t559 = true then (if 0 < ((a0.extract (x7_1 : Int).toNat ((wrap64 (x7_1 + t558)) : Int).toNat).size : Int) then ((bulletinref15_blank.f (bt (a0.extract (x7_1 : Int).toNat ((wrap64 (x7_1 + t558)) : Int).toNat) 0)).bind fun t560 => (if t560 = true then (if (x5_1.length : Int) = 0 then (some (([] : List (S59)), (⟨#[]⟩ : ByteArray), 150)) else (if 0 ≤ (wrap64 ((x5_1.length : Int) - 1)) then (if (wrap64 ((x5_1.length : Int) - 1)) < (x5_1.length : Int) then (if ((rd_T59 x5_1 (wrap64 ((x5_1.length : Int) - 1))).f1).size + (a0.extract (x7_1 : Int).toNat ((wrap64 (x7_1 + t558)) : Int).toNat).size ≤ 9223372036854775807 then (bulletinref15_Parse.l0 k1 a0 (x5_1.set ((wrap64 ((x5_1.length : Int) - 1)) : Int).toNat (⟨(rd_T59 x5_1 (wrap64 ((x5_1.length : Int) - 1))).f0, ((rd_T59 x5_1 (wrap64 ((x5_1.length : Int) - 1))).f1) ++ (a0.extract (x7_1 : Int).toNat ((wrap64 (x7_1 + t558)) : Int).toNat)⟩ : S59)) x6_1 (wrap64 ((wrap64 (x7_1 + t558)) + 2))) else (none)) else (none)) else (none))) else (bulletinref15_Parse.l1 k1 a0 x5_1 x6_1 (wrap64 ((wrap64 (x7_1 + t558)) + 2)) (a0.extract (x7_1 : Int).toNat ((wrap64 (x7_1 + t558)) : Int).toNat) 0))) else (none)) else (some (([] : List (S59)), (⟨#[]⟩ : ByteArray), 150)))))) else (none)) else (none))) = some (r1, r2, r3) := H
      have A5 := Aside0.mk A50
      clear A50
      by_cases c6 : t558 < 0
      ·rw [if_pos c6] at H
       have c6b0 : decide (t558 < 0) = true := decide_eq_true c6
       clear c6
       simp only [Option.some.injEq, Prod.mk.injEq] at H
       obtain ⟨rfl, rfl, rfl⟩ := H
       go_wp2_with (first | ((with_reducible refine gate_callee (f := 92) rfl ?_); refine goesL_ (some 19) rfl rfl Tryd.func92 (by kernel_rfl) rfl #[.string (a0.extract (x7_1 : Int).toNat a0.size)] rfl am ?_; (with_reducible refine (bulletinref15_line.calls k1 (a0.extract (x7_1 : Int).toNat a0.size) t558 _ A5.out).mono ?_); rintro e w' ⟨rfl, ⟨nd, rfl⟩⟩; refine ⟨_, rfl, ?_⟩))
       go_ret3
       exact ⟨_, by first | rfl | (simp [errW_none, errW_some] <;> rfl) | (simp [*, errW_none, errW_some] <;> rfl), by first | exact Kd.R_nil _ _ _ _ _ | exact Kd.N_nil _ _ _ _ _ | exact Kd.V_nil _ _ _ _ _ | exact Kd.Q_nil _ _ _ _ _ | exact Kd.S_nil _ _ _ _ _, by repeat (first | (with_reducible first | exact HB.out | apply below_alloc | apply pw_below_drewN | apply below_drew1) | exact HB.out)⟩
      ·rw [if_neg c6] at H
       have c6b0 : decide (t558 < 0) = false := decide_eq_false c6
       clear c6
       have c7b0 := eq_true (od : 0 ≤ x7_1)
       by_cases c8 : x7_1 ≤ (wrap64 (x7_1 + t558))
       ·rw [if_pos c8] at H
        have c8b0 := eq_true c8
        have c8b1 : decide (x7_1 ≤ (wrap64 (x7_1 + t558))) = true := decide_eq_true c8
        by_cases c9 : (wrap64 (x7_1 + t558)) ≤ (a0.size : Int)
        ·rw [if_pos c9] at H
         have c9b0 := eq_true c9
         have c9b1 : decide ((wrap64 (x7_1 + t558)) ≤ (a0.size : Int)) = true := decide_eq_true c9
         by_cases c10 : t558 = 0
         ·rw [if_pos c10] at H
          have c10b0 : (t558 == 0) = true := beq_iff_eq.mpr c10
          have c10b1 : (t558 != 0) = false := bne_eq_false_iff_eq.mpr c10
          clear c10
          obtain ⟨ji11, hji11⟩ : ∃ j_ : Int, (wrap64 ((wrap64 (x7_1 + t558)) + 2)) = j_ := ⟨_, rfl⟩
          replace H : (if 0 ≤ (ji11) then (if (ji11) ≤ (a0.size : Int) then (bulletinref15_Parse.l0 k1 a0 x5_1 (a0.extract ((ji11) : Int).toNat a0.size) (a0.size : Int)) else (none)) else (none)) = some (r1, r2, r3) := by first | (rw [hji11] at H; exact H) | (simp only [hji11] at H ⊢; exact H)
          (try rw [hji11] at A5)
          have hji11w : (IntKind.i64.wrap ((wrap64 (x7_1 + t558)) + 2)) = ji11 := (i64_w _).trans hji11
          by_cases c12 : 0 ≤ (ji11)
          ·rw [if_pos c12] at H
           have c12b0 := eq_true c12
           have c12b1 : decide (0 ≤ (ji11)) = true := decide_eq_true c12
           clear c12
           by_cases c13 : (ji11) ≤ (a0.size : Int)
           ·rw [if_pos c13] at H
            have c13b0 := eq_true c13
            have c13b1 : decide ((ji11) ≤ (a0.size : Int)) = true := decide_eq_true c13
            clear c13
            have H' := Aside0.mk H
            clear H
            go_wp2_with (first | ((with_reducible refine gate_callee (f := 92) rfl ?_); refine goesL_ (some 19) rfl rfl Tryd.func92 (by kernel_rfl) rfl #[.string (a0.extract (x7_1 : Int).toNat a0.size)] rfl am ?_; (with_reducible refine (bulletinref15_line.calls k1 (a0.extract (x7_1 : Int).toNat a0.size) t558 _ A5.out).mono ?_); rintro e w' ⟨rfl, ⟨nd, rfl⟩⟩; refine ⟨_, rfl, ?_⟩))
            go_roundg k1
            case measure => have := HK1.out; omega
            case rel => exact ⟨(x5_1), (a0.extract ((ji11) : Int).toNat a0.size), ((a0.size : Int)), (by first | rfl | (simp; done) | (simp only [← hji11] <;> (first | rfl | simp)) | (simp [*]; done) | (simp [nil_ne]; done)), cl, H', ⟨by have := HK1.out; omega⟩, ⟨by (with_reducible repeat (first | apply Kd.R_alloc | apply Kd.R_drewN | apply Kd.R_drew)); exact HO_5.out⟩, ⟨by repeat (first | (with_reducible first | exact HB.out | apply below_alloc | apply pw_below_drewN | apply below_drew1) | exact HB.out)⟩⟩
           ·rw [if_neg c13] at H
            exact absurd H (by simp)
          ·rw [if_neg c12] at H
           exact absurd H (by simp)
         ·rw [if_neg c10] at H
          have c10b0 : (t558 == 0) = false := beq_eq_false_iff_ne.mpr c10
          have c10b1 : (t558 != 0) = true := bne_iff_ne.mpr c10
          by_cases c14 : t558 > 998
          ·rw [if_pos c14] at H
           have c14b0 : decide (998 < t558) = true := decide_eq_true c14
           clear c14
           simp only [Option.some.injEq, Prod.mk.injEq] at H
           obtain ⟨rfl, rfl, rfl⟩ := H
           go_wp2_with (first | ((with_reducible refine gate_callee (f := 92) rfl ?_); refine goesL_ (some 19) rfl rfl Tryd.func92 (by kernel_rfl) rfl #[.string (a0.extract (x7_1 : Int).toNat a0.size)] rfl am ?_; (with_reducible refine (bulletinref15_line.calls k1 (a0.extract (x7_1 : Int).toNat a0.size) t558 _ A5.out).mono ?_); rintro e w' ⟨rfl, ⟨nd, rfl⟩⟩; refine ⟨_, rfl, ?_⟩))
           go_ret3
           exact ⟨_, by first | rfl | (simp [errW_none, errW_some] <;> rfl) | (simp [*, errW_none, errW_some] <;> rfl), by first | exact Kd.R_nil _ _ _ _ _ | exact Kd.N_nil _ _ _ _ _ | exact Kd.V_nil _ _ _ _ _ | exact Kd.Q_nil _ _ _ _ _ | exact Kd.S_nil _ _ _ _ _, by repeat (first | (with_reducible first | exact HB.out | apply below_alloc | apply pw_below_drewN | apply below_drew1) | exact HB.out)⟩
          ·rw [if_neg c14] at H
           have c14b0 : decide (998 < t558) = false := decide_eq_false c14
           clear c14
           obtain ⟨ex1_, hex1_⟩ : ∃ e_ : ByteArray, (a0.extract (x7_1 : Int).toNat ((wrap64 (x7_1 + t558)) : Int).toNat) = e_ := ⟨_, rfl⟩
           (try rw [hex1_] at H)
           replace H := Option.bind_eq_some_iff.mp H
           obtain ⟨t559, A150, H⟩ := H
           replace H : (if t559 = true then (if 0 < (ex1_.size : Int) then ((bulletinref15_blank.f (bt ex1_ 0)).bind fun t560 => (if t560 = true then (if (x5_1.length : Int) = 0 then (some (([] : List (S59)), (⟨#[]⟩ : ByteArray), 150)) else (if 0 ≤ (wrap64 ((x5_1.length : Int) - 1)) then (if (wrap64 ((x5_1.length : Int) - 1)) < (x5_1.length : Int) then (if ((rd_T59 x5_1 (wrap64 ((x5_1.length : Int) - 1))).f1).size + ex1_.size ≤ 9223372036854775807 then (bulletinref15_Parse.l0 k1 a0 (x5_1.set ((wrap64 ((x5_1.length : Int) - 1)) : Int).toNat (⟨(rd_T59 x5_1 (wrap64 ((x5_1.length : Int) - 1))).f0, ((rd_T59 x5_1 (wrap64 ((x5_1.length : Int) - 1))).f1) ++ ex1_⟩ : S59)) x6_1 (wrap64 ((wrap64 (x7_1 + t558)) + 2))) else (none)) else (none)) else (none))) else (bulletinref15_Parse.l1 k1 a0 x5_1 x6_1 (wrap64 ((wrap64 (x7_1 + t558)) + 2)) ex1_ 0))) else (none)) else (some (([] : List (S59)), (⟨#[]⟩ : ByteArray), 150))) = some (r1, r2, r3) := H
           have A15 := Aside0.mk A150
           clear A150
           by_cases c16 : t559 = true
           ·subst c16
            have H1 : (if 0 < (ex1_.size : Int) then ((bulletinref15_blank.f (bt ex1_ 0)).bind fun t560 => (if t560 = true then (if (x5_1.length : Int) = 0 then (some (([] : List (S59)), (⟨#[]⟩ : ByteArray), 150)) else (if 0 ≤ (wrap64 ((x5_1.length : Int) - 1)) then (if (wrap64 ((x5_1.length : Int) - 1)) < (x5_1.length : Int) then (if ((rd_T59 x5_1 (wrap64 ((x5_1.length : Int) - 1))).f1).size + ex1_.size ≤ 9223372036854775807 then (bulletinref15_Parse.l0 k1 a0 (x5_1.set ((wrap64 ((x5_1.length : Int) - 1)) : Int).toNat (⟨(rd_T59 x5_1 (wrap64 ((x5_1.length : Int) - 1))).f0, ((rd_T59 x5_1 (wrap64 ((x5_1.length : Int) - 1))).f1) ++ ex1_⟩ : S59)) x6_1 (wrap64 ((wrap64 (x7_1 + t558)) + 2))) else (none)) else (none)) else (none))) else (bulletinref15_Parse.l1 k1 a0 x5_1 x6_1 (wrap64 ((wrap64 (x7_1 + t558)) + 2)) ex1_ 0))) else (none)) = some (r1, r2, r3) := by rw [if_pos rfl] at H; exact H
            clear H
            have H := H1
            clear H1
            by_cases c17 : 0 < (ex1_.size : Int)
            ·rw [if_pos c17] at H
             have c17b0 : decide (0 < (ex1_.size : Int)) = true := decide_eq_true c17
             have c17b1 : decide (0 < ex1_.size) = true := decide_eq_true (by omega)
             clear c17
             replace H := Option.bind_eq_some_iff.mp H
             obtain ⟨t560, A190, H⟩ := H
             replace H : (if t560 = true then (if (x5_1.length : Int) = 0 then (some (([] : List (S59)), (⟨#[]⟩ : ByteArray), 150)) else (if 0 ≤ (wrap64 ((x5_1.length : Int) - 1)) then (if (wrap64 ((x5_1.length : Int) - 1)) < (x5_1.length : Int) then (if ((rd_T59 x5_1 (wrap64 ((x5_1.length : Int) - 1))).f1).size + ex1_.size ≤ 9223372036854775807 then (bulletinref15_Parse.l0 k1 a0 (x5_1.set ((wrap64 ((x5_1.length : Int) - 1)) : Int).toNat (⟨(rd_T59 x5_1 (wrap64 ((x5_1.length : Int) - 1))).f0, ((rd_T59 x5_1 (wrap64 ((x5_1.length : Int) - 1))).f1) ++ ex1_⟩ : S59)) x6_1 (wrap64 ((wrap64 (x7_1 + t558)) + 2))) else (none)) else (none)) else (none))) else (bulletinref15_Parse.l1 k1 a0 x5_1 x6_1 (wrap64 ((wrap64 (x7_1 + t558)) + 2)) ex1_ 0)) = some (r1, r2, r3) := H
             have A19 := Aside0.mk A190
             clear A190
             by_cases c20 : t560 = true
             ·subst c20
              have H1 : (if (x5_1.length : Int) = 0 then (some (([] : List (S59)), (⟨#[]⟩ : ByteArray), 150)) else (if 0 ≤ (wrap64 ((x5_1.length : Int) - 1)) then (if (wrap64 ((x5_1.length : Int) - 1)) < (x5_1.length : Int) then (if ((rd_T59 x5_1 (wrap64 ((x5_1.length : Int) - 1))).f1).size + ex1_.size ≤ 9223372036854775807 then (bulletinref15_Parse.l0 k1 a0 (x5_1.set ((wrap64 ((x5_1.length : Int) - 1)) : Int).toNat (⟨(rd_T59 x5_1 (wrap64 ((x5_1.length : Int) - 1))).f0, ((rd_T59 x5_1 (wrap64 ((x5_1.length : Int) - 1))).f1) ++ ex1_⟩ : S59)) x6_1 (wrap64 ((wrap64 (x7_1 + t558)) + 2))) else (none)) else (none)) else (none))) = some (r1, r2, r3) := by rw [if_pos rfl] at H; exact H
              clear H
              have H := H1
              clear H1
              by_cases c21 : (x5_1.length : Int) = 0
              ·rw [if_pos c21] at H
               have c21b0 : ((x5_1.length : Int) == 0) = true := beq_iff_eq.mpr c21
               have c21b1 : ((x5_1.length : Int) != 0) = false := bne_eq_false_iff_eq.mpr c21
               clear c21
               simp only [Option.some.injEq, Prod.mk.injEq] at H
               obtain ⟨rfl, rfl, rfl⟩ := H
               go_wp2_with (first | ((with_reducible refine gate_callee (f := 92) rfl ?_); refine goesL_ (some 19) rfl rfl Tryd.func92 (by kernel_rfl) rfl #[.string (a0.extract (x7_1 : Int).toNat a0.size)] rfl am ?_; (with_reducible refine (bulletinref15_line.calls k1 (a0.extract (x7_1 : Int).toNat a0.size) t558 _ A5.out).mono ?_); rintro e w' ⟨rfl, ⟨nd, rfl⟩⟩; refine ⟨_, rfl, ?_⟩) | ((with_reducible refine gate_callee (f := 93) rfl ?_); refine goesL_ (some 42) rfl rfl Tryd.func93 (by kernel_rfl) rfl #[.string ex1_] rfl am ?_; (with_reducible refine (bulletinref15_textual.calls k1 ex1_ true _ A15.out).mono ?_); rintro e w' ⟨rfl, ⟨nd, rfl⟩⟩; refine ⟨_, rfl, ?_⟩; have p18 : 0 ≤ (0 : Int) := (by omega); have q18 : 0 < ex1_.size := (by have : (0 : Int) < (ex1_.size : Int) := od; omega); have hx18 : ∀ h : 0 < ex1_.size, ((ex1_[0]'h).toNat : Int) = bt ex1_ 0 := bt_at ex1_ 0; clear p18; have qi18 : (0 < (ex1_.size : Int)) = True := eq_true (od); replace q18 := eq_true q18) | ((with_reducible refine gate_callee (f := 94) rfl ?_); refine goesL_ (some 46) rfl rfl Tryd.func94 (by kernel_rfl) rfl #[.int .u8 (bt ex1_ 0)] rfl am ?_; (with_reducible refine (bulletinref15_blank.calls (bt ex1_ 0) true _ A19.out).mono ?_); rintro e w' ⟨rfl, ⟨nd, rfl⟩⟩; refine ⟨_, rfl, ?_⟩; obtain ⟨Ao22, co22, eo22⟩ := Kd.R_slice HO_5.out; subst eo22))
               go_ret3
               exact ⟨_, by first | rfl | (simp [errW_none, errW_some] <;> rfl) | (simp [*, errW_none, errW_some] <;> rfl), by first | exact Kd.R_nil _ _ _ _ _ | exact Kd.N_nil _ _ _ _ _ | exact Kd.V_nil _ _ _ _ _ | exact Kd.Q_nil _ _ _ _ _ | exact Kd.S_nil _ _ _ _ _, by repeat (first | (with_reducible first | exact HB.out | apply below_alloc | apply pw_below_drewN | apply below_drew1) | exact HB.out)⟩
              ·rw [if_neg c21] at H
               have c21b0 : ((x5_1.length : Int) == 0) = false := beq_eq_false_iff_ne.mpr c21
               have c21b1 : ((x5_1.length : Int) != 0) = true := bne_iff_ne.mpr c21
               have c21b2 : ¬ (x5_1 = []) := fun h_ => c21 (by rw [h_]; rfl)
               obtain ⟨ji23, hji23⟩ : ∃ j_ : Int, (wrap64 ((x5_1.length : Int) - 1)) = j_ := ⟨_, rfl⟩
               replace H : (if 0 ≤ (ji23) then (if (ji23) < (x5_1.length : Int) then (if ((rd_T59 x5_1 (ji23)).f1).size + ex1_.size ≤ 9223372036854775807 then (bulletinref15_Parse.l0 k1 a0 (x5_1.set ((ji23) : Int).toNat (⟨(rd_T59 x5_1 (ji23)).f0, ((rd_T59 x5_1 (ji23)).f1) ++ ex1_⟩ : S59)) x6_1 (wrap64 ((wrap64 (x7_1 + t558)) + 2))) else (none)) else (none)) else (none)) = some (r1, r2, r3) := by first | (rw [hji23] at H; exact H) | (simp only [hji23] at H ⊢; exact H)
               (try rw [hji23] at A5)
               (try rw [hji23] at A15)
               (try rw [hji23] at A19)
               have hji23w : (IntKind.i64.wrap ((x5_1.length : Int) - 1)) = ji23 := (i64_w _).trans hji23
               by_cases c24 : 0 ≤ (ji23)
               ·rw [if_pos c24] at H
                have c24b0 : decide (0 ≤ (ji23)) = true := decide_eq_true c24
                clear c24
                by_cases c25 : (ji23) < (x5_1.length : Int)
                ·rw [if_pos c25] at H
                 have c25b0 : decide ((ji23) < (x5_1.length : Int)) = true := decide_eq_true c25
                 clear c25
                 by_cases c26 : ((rd_T59 x5_1 (ji23)).f1).size + ex1_.size ≤ 9223372036854775807
                 ·rw [if_pos c26] at H
                  have c26b0 := eq_true c26
                  have c26b1 : decide (((rd_T59 x5_1 (ji23)).f1).size + ex1_.size ≤ 9223372036854775807) = true := decide_eq_true c26
                  try have c26b2 : (9223372036854775807 < ((rd_T59 x5_1 (ji23)).f1).size + ex1_.size) = False := eq_false (Nat.not_lt.2 c26)
                  obtain ⟨y562, hy562⟩ : ∃ y_ : List (S59), y_ = (x5_1.set ((ji23) : Int).toNat (⟨(rd_T59 x5_1 (ji23)).f0, ((rd_T59 x5_1 (ji23)).f1) ++ ex1_⟩ : S59)) := ⟨_, rfl⟩
                  replace H : (bulletinref15_Parse.l0 k1 a0 y562 x6_1 (wrap64 ((wrap64 (x7_1 + t558)) + 2))) = some (r1, r2, r3) := by first | (rw [hy562]; with_reducible exact H) | (have H2_ := (Option.bind_some _ _).symm.trans H; rw [hy562]; with_reducible exact H2_) | (have H2_ := (Option.bind_some _ _).symm.trans H; with_reducible exact H2_) | with_reducible exact H | (rw [hy562]; exact H) | exact H
                  have Ny562 := Aside0.mk hy562
                  clear hy562
                  have H' := Aside0.mk H
                  clear H
                  go_wp2_with (first | ((with_reducible refine gate_callee (f := 92) rfl ?_); refine goesL_ (some 19) rfl rfl Tryd.func92 (by kernel_rfl) rfl #[.string (a0.extract (x7_1 : Int).toNat a0.size)] rfl am ?_; (with_reducible refine (bulletinref15_line.calls k1 (a0.extract (x7_1 : Int).toNat a0.size) t558 _ A5.out).mono ?_); rintro e w' ⟨rfl, ⟨nd, rfl⟩⟩; refine ⟨_, rfl, ?_⟩; (try (rw [drewN_self wr]; generalize hq_ : World.drewN wr _ = wr; have n0_ : Aside0 (Kd.R k59 59 wr w.heap.size (fun _ => True) u5 x5_1) := ⟨by rw [← hq_]; exact (by (with_reducible repeat (first | apply Kd.R_alloc | apply Kd.R_drewN | apply Kd.R_drew)); exact HO_5.out)⟩; have n1_ : Aside0 (Below w.heap.size w wr) := ⟨by rw [← hq_]; exact bw⟩; clear HO_5 HB hq_; have HO_5 := n0_; have HB := n1_; clear n0_ n1_))) | ((with_reducible refine gate_callee (f := 93) rfl ?_); refine goesL_ (some 42) rfl rfl Tryd.func93 (by kernel_rfl) rfl #[.string ex1_] rfl am ?_; (with_reducible refine (bulletinref15_textual.calls k1 ex1_ true _ A15.out).mono ?_); rintro e w' ⟨rfl, ⟨nd, rfl⟩⟩; refine ⟨_, rfl, ?_⟩; (try (rw [drewN_self wr]; generalize hq_ : World.drewN wr _ = wr; have n0_ : Aside0 (Kd.R k59 59 wr w.heap.size (fun _ => True) u5 x5_1) := ⟨by rw [← hq_]; exact (by (with_reducible repeat (first | apply Kd.R_alloc | apply Kd.R_drewN | apply Kd.R_drew)); exact HO_5.out)⟩; have n1_ : Aside0 (Below w.heap.size w wr) := ⟨by rw [← hq_]; exact bw⟩; clear HO_5 HB hq_; have HO_5 := n0_; have HB := n1_; clear n0_ n1_)); have p18 : 0 ≤ (0 : Int) := (by omega); have q18 : 0 < ex1_.size := (by have : (0 : Int) < (ex1_.size : Int) := od; omega); have hx18 : ∀ h : 0 < ex1_.size, ((ex1_[0]'h).toNat : Int) = bt ex1_ 0 := bt_at ex1_ 0; clear p18; have qi18 : (0 < (ex1_.size : Int)) = True := eq_true (od); replace q18 := eq_true q18) | ((with_reducible refine gate_callee (f := 94) rfl ?_); refine goesL_ (some 46) rfl rfl Tryd.func94 (by kernel_rfl) rfl #[.int .u8 (bt ex1_ 0)] rfl am ?_; (with_reducible refine (bulletinref15_blank.calls (bt ex1_ 0) true _ A19.out).mono ?_); rintro e w' ⟨rfl, ⟨nd, rfl⟩⟩; refine ⟨_, rfl, ?_⟩; (try (rw [drewN_self wr]; generalize hq_ : World.drewN wr _ = wr; have n0_ : Aside0 (Kd.R k59 59 wr w.heap.size (fun _ => True) u5 x5_1) := ⟨by rw [← hq_]; exact (by (with_reducible repeat (first | apply Kd.R_alloc | apply Kd.R_drewN | apply Kd.R_drew)); exact HO_5.out)⟩; have n1_ : Aside0 (Below w.heap.size w wr) := ⟨by rw [← hq_]; exact bw⟩; clear HO_5 HB hq_; have HO_5 := n0_; have HB := n1_; clear n0_ n1_)); obtain ⟨Ao28, co28, eo28⟩ := Kd.R_slice HO_5.out; subst eo28; have p561 : 0 ≤ ((ji23) : Int) := od; have q561 : (ji23) < (x5_1.length : Int) := od; obtain ⟨ad561, e561, hx561_0, hx561_1⟩ := at_T59 (Kd.R_reads' HO_5.out).2.2 (ji23) p561 q561; cases e561; replace p561 := eq_true p561; replace q561 := eq_true q561; have p27 : 0 ≤ ((ji23) : Int) := od; have q27 : ((ji23) : Int) < ((x5_1.length : Int) : Int) := od; obtain ⟨go27, co27, eo27, gb27, gl27, cl27, HG27⟩ := Kd.R_form HO_5.out (by omega); (first | cases eo27 | (injection eo27 with ea_ en_ ec_; (first | subst ea_ | (injection ea_ with ea_; subst ea_)); subst ec_; clear en_)); have GB27 := Aside0.mk gb27; have GG27 := Aside0.mk HG27; clear gb27 gl27 HG27; (first | simp only [add_plain] at hx561_0 | skip); (first | simp only [add_plain] at hx561_1 | skip); obtain ⟨ce27, hcl27, hM27, hcc27, hfr27⟩ := Kd.R_elem HO_5.out z59 ((ji23) : Int) p27 q27; obtain rfl := k59_openM hM27; have hx27_0 : wr.cell? ⟨go27, ((ji23) : Int).toNat * 2, none⟩ = some (.string ((rd_T59 x5_1 (ji23)).f0)) := hcc27 0 _ rfl; have hx27_1 : wr.cell? ⟨go27, ((ji23) : Int).toNat * 2 + 1, none⟩ = some (.string ((rd_T59 x5_1 (ji23)).f1)) := hcc27 1 _ rfl; have hf27_0 : wr.frozen? ⟨go27, ((ji23) : Int).toNat * 2, none⟩ = false := hfr27 0; have hf27_1 : wr.frozen? ⟨go27, ((ji23) : Int).toNat * 2 + 1, none⟩ = false := hfr27 1; clear hcl27 hcc27 hfr27 hM27; replace p27 := eq_true p27; replace q27 := eq_true q27; have HX29 := Aside0.mk (show Kd.R k59 59 wr w.heap.size (fun _ => True) (.slice (some ⟨go27, 0, none⟩) x5_1.length co28) x5_1 from (by (with_reducible repeat (first | apply Kd.R_alloc | apply Kd.R_drewN | apply Kd.R_drew)); exact HO_5.out)); obtain ⟨ce29, hcl29, hM29, hcc29, hfr29⟩ := Kd.R_elem HX29.out z59 ((ji23) : Int) (od) (by have h_ : ((ji23) : Int) < ((x5_1.length : Int) : Int) := od; first | exact h_ | (have e_ := (Kd.R_reads' HO_5.out).1; omega) | simpa using h_); obtain rfl := k59_openM hM29; have HP29 := Kd.R_seg HX29.out ((ji23) : Int) (od) (by have h_ : ((ji23) : Int) < ((x5_1.length : Int) : Int) := od; first | exact h_ | (have e_ := (Kd.R_reads' HO_5.out).1; omega) | simpa using h_) (seg := [.string (((rd_T59 x5_1 (ji23)).f1) ++ ex1_)]) (j := 1) hcl29 hcc29 (show 2 ≤ 2 from by decide) (x' := (⟨(rd_T59 x5_1 (ji23)).f0, ((rd_T59 x5_1 (ji23)).f1) ++ ex1_⟩ : S59)) (k59_mkM _ _ _ (⟨(rd_T59 x5_1 (ji23)).f0, ((rd_T59 x5_1 (ji23)).f1) ++ ex1_⟩ : S59) ) (fun _ hk => hk); have hx29_1 := hcc29 1 _ rfl; (try simp only [show (k59).sz = 2 from rfl, Nat.mul_one, Nat.add_zero] at hx29_1); have hf29_1 := hfr29 1; (try simp only [show (k59).sz = 2 from rfl, Nat.mul_one, Nat.add_zero] at hf29_1); clear hcl29 hcc29 hfr29 hM29) | ((with_reducible refine gate_store (t := 9) (p := 64) rfl ?_); refine store_event (t := 9) (p := 64) (v := ?vo_w30) (w1 := (wr.setCell ⟨go27, ((ji23) : Int).toNat * 2 + 1, none⟩ (.string (((rd_T59 x5_1 (ji23)).f1) ++ ex1_)))) ?hg ?ho ?hn ?hr ?_; (case ho => rfl); (case hg => rfl); (case hn => rfl); (case hr => first | (go_simp; done) | (go_simp; rfl)); intro w30 hw; have hg : wr.grownBy w30 (some go27) := (by rw [hw]; exact HP29.2); have hp_ : Kd.R k59 59 w30 w.heap.size (fun _ => True) (.slice (some ⟨go27, 0, none⟩) x5_1.length co28) y562 := (by rw [hw, Ny562.out]; exact HP29.1); clear HP29; have n0_ := Aside0.mk (hp_); have n1_ := Aside0.mk ((by rw [hw]; exact below_set (HB.out) GB27.out : Below w.heap.size w w30)); clear HO_5; clear HB; have HO_5 := n0_; have HB := n1_; clear n0_ n1_; clear hg hw hp_))
                  go_roundg k1
                  case measure => have := HK1.out; omega
                  case rel => exact ⟨(y562), (x6_1), (wrap64 ((wrap64 (x7_1 + t558)) + 2)), cl, cl, H', ⟨by have := HK1.out; omega⟩, ⟨by (with_reducible repeat (first | apply Kd.R_alloc | apply Kd.R_drewN | apply Kd.R_drew)); exact HO_5.out⟩, ⟨by repeat (first | (with_reducible first | exact HB.out | apply below_alloc | apply pw_below_drewN | apply below_drew1) | exact HB.out)⟩⟩
                 ·rw [if_neg c26] at H
                  exact absurd H (by simp)
                ·rw [if_neg c25] at H
                 exact absurd H (by simp)
               ·rw [if_neg c24] at H
                exact absurd H (by simp)
             ·replace c20 := Bool.eq_false_iff.mpr c20
              subst c20
              have H1 : (bulletinref15_Parse.l1 k1 a0 x5_1 x6_1 (wrap64 ((wrap64 (x7_1 + t558)) + 2)) ex1_ 0) = some (r1, r2, r3) := by rw [if_neg (show ¬ (false = true) by decide)] at H; exact H
              clear H
              have H := H1
              clear H1
              have HC31 := Aside0.mk H
              clear H
              go_upto_block 2 with (first | ((with_reducible refine gate_callee (f := 92) rfl ?_); refine goesL_ (some 19) rfl rfl Tryd.func92 (by kernel_rfl) rfl #[.string (a0.extract (x7_1 : Int).toNat a0.size)] rfl am ?_; (with_reducible refine (bulletinref15_line.calls k1 (a0.extract (x7_1 : Int).toNat a0.size) t558 _ A5.out).mono ?_); rintro e w' ⟨rfl, ⟨nd, rfl⟩⟩; refine ⟨_, rfl, ?_⟩) | ((with_reducible refine gate_callee (f := 93) rfl ?_); refine goesL_ (some 42) rfl rfl Tryd.func93 (by kernel_rfl) rfl #[.string ex1_] rfl am ?_; (with_reducible refine (bulletinref15_textual.calls k1 ex1_ true _ A15.out).mono ?_); rintro e w' ⟨rfl, ⟨nd, rfl⟩⟩; refine ⟨_, rfl, ?_⟩; have p18 : 0 ≤ (0 : Int) := (by omega); have q18 : 0 < ex1_.size := (by have : (0 : Int) < (ex1_.size : Int) := od; omega); have hx18 : ∀ h : 0 < ex1_.size, ((ex1_[0]'h).toNat : Int) = bt ex1_ 0 := bt_at ex1_ 0; clear p18; have qi18 : (0 < (ex1_.size : Int)) = True := eq_true (od); replace q18 := eq_true q18) | ((with_reducible refine gate_callee (f := 94) rfl ?_); refine goesL_ (some 46) rfl rfl Tryd.func94 (by kernel_rfl) rfl #[.int .u8 (bt ex1_ 0)] rfl am ?_; (with_reducible refine (bulletinref15_blank.calls (bt ex1_ 0) false _ A19.out).mono ?_); rintro e w' ⟨rfl, ⟨nd, rfl⟩⟩; refine ⟨_, rfl, ?_⟩))
              (try simp only [Act.put, List.setIfInBounds_toArray, List.set_cons_zero, List.set_cons_succ])
              go_cut [10] (fun v10 wc => ∃ (kq : Nat) (x10_30 : Int), v10 = .int .i64 x10_30 ∧ Aside0 (bulletinref15_Parse.j2 kq a0 x5_1 x6_1 (wrap64 ((wrap64 (x7_1 + t558)) + 2)) ex1_ x10_30 = some (r1, r2, r3)) ∧ Aside0 (kq ≤ k1) ∧ Aside0 (Kd.R k59 59 wc w.heap.size (fun _ => True) u5 x5_1) ∧ Aside0 (Below w.heap.size w wc))
              case first =>
               have H := HC31.out
               clear HC31
               have H' := Aside0.mk H
               clear H
               go_wp2
               go_loopg [10] k1 (fun kq v10 w' => ∃ (x10_2 : Int), v10 = .int .i64 x10_2 ∧ Aside0 (bulletinref15_Parse.l1 kq a0 x5_1 x6_1 (wrap64 ((wrap64 (x7_1 + t558)) + 2)) ex1_ x10_2 = some (r1, r2, r3)) ∧ Aside0 (kq ≤ k1) ∧ Aside0 (Kd.R k59 59 w' w.heap.size (fun _ => True) u5 x5_1) ∧ Aside0 (Below w.heap.size w w'))
               case atStart => exact ⟨(0), cl, H', ⟨Nat.le_refl _⟩, ⟨by (with_reducible repeat (first | apply Kd.R_alloc | apply Kd.R_drewN | apply Kd.R_drew)); exact HO_5.out⟩, ⟨by repeat (first | (with_reducible first | exact HB.out | apply below_alloc | apply pw_below_drewN | apply below_drew1) | exact HB.out)⟩⟩
               case round =>
                clear H'
                try clear c1
                try clear p1
                try clear q1
                try clear hx1
                try clear qi1
                try clear c2
                try clear c2b0
                try clear p2
                try clear q2
                try clear hx2
                try clear hf2
                try clear c3
                try clear c3b0
                try clear c3b1
                try clear c4
                try clear c4b0
                try clear c4b1
                try clear p5
                try clear q5
                try clear hx5
                try clear c6
                try clear c6b0
                try clear p6
                try clear c7
                try clear c7b0
                try clear c8
                try clear c8b0
                try clear c8b1
                try clear c9
                try clear c9b0
                try clear c9b1
                try clear c10
                try clear c10b0
                try clear c10b1
                try clear c12
                try clear c12b0
                try clear c12b1
                try clear c13
                try clear c13b0
                try clear c13b1
                try clear c14
                try clear c14b0
                try clear c16
                try clear c17
                try clear c17b0
                try clear c17b1
                try clear p18
                try clear q18
                try clear hx18
                try clear qi18
                try clear c20
                try clear c21
                try clear c21b0
                try clear c21b1
                try clear c21b2
                try clear c24
                try clear c24b0
                try clear c25
                try clear c25b0
                try clear c26
                try clear c26b0
                try clear c26b1
                try clear c26b2
                try clear c27
                try clear p27
                try clear q27
                try clear hx27
                try clear hf27
                try clear c29
                try clear hx29
                try clear hf29
                try clear hx27_0
                try clear hx27_1
                try clear hx29_1
                try clear hx561_0
                try clear hx561_1
                try clear p18
                try clear p27
                try clear p561
                try clear q18
                try clear q27
                try clear q561
                obtain ⟨x10_2, rfl, HA, HK2, HO_5, HB⟩ := hrel
                cases gk with
                | zero => exact absurd HA.out (by simp [bulletinref15_Parse.l1])
                | succ k2 =>
                 have H := HA.out
                 clear HA
                 simp only [bulletinref15_Parse.l1] at H
                 by_cases c32 : x10_2 < (ex1_.size : Int)
                 ·rw [if_pos c32] at H
                  have c32b0 : decide (x10_2 < (ex1_.size : Int)) = true := decide_eq_true c32
                  clear c32
                  (first | rw [c32b0] | (simp only [i64_w, i32_w]; rw [c32b0]) | skip)
                  by_cases c33 : 0 ≤ x10_2
                  ·rw [if_pos c33] at H
                   have c33b0 : decide (0 ≤ x10_2) = true := decide_eq_true c33
                   clear c33
                   by_cases c35 : (bt ex1_ x10_2) = 58
                   ·rw [if_pos c35] at H
                    have c35b0 : ((bt ex1_ x10_2) == 58) = true := beq_iff_eq.mpr c35
                    have c35b1 : ((bt ex1_ x10_2) != 58) = false := bne_eq_false_iff_eq.mpr c35
                    clear c35
                    have H' := Aside0.mk H
                    clear H
                    have p34 : 0 ≤ (x10_2 : Int) := od
                    have q34 : x10_2 < (ex1_.size : Int) := od
                    have hx34 := bt_at ex1_ x10_2
                    replace p34 := eq_true p34
                    replace q34 := eq_true q34
                    go_wp2
                    go_meet
                    case rel => exact ⟨_, (x10_2), cl, H', ⟨by have := HK1.out; have := HK2.out; first | omega | exact Nat.le_refl _⟩, ⟨by (with_reducible repeat (first | apply Kd.R_alloc | apply Kd.R_drewN | apply Kd.R_drew)); exact HO_5.out⟩, ⟨by repeat (first | (with_reducible first | exact HB.out | apply below_alloc | apply pw_below_drewN | apply below_drew1) | exact HB.out)⟩⟩
                   ·rw [if_neg c35] at H
                    have c35b0 : ((bt ex1_ x10_2) == 58) = false := beq_eq_false_iff_ne.mpr c35
                    have c35b1 : ((bt ex1_ x10_2) != 58) = true := bne_iff_ne.mpr c35
                    have H' := Aside0.mk H
                    clear H
                    have p34 : 0 ≤ (x10_2 : Int) := od
                    have q34 : x10_2 < (ex1_.size : Int) := od
                    have hx34 := bt_at ex1_ x10_2
                    replace p34 := eq_true p34
                    replace q34 := eq_true q34
                    go_wp2
                    go_roundg k2
                    case measure => have := HK1.out; have := HK2.out; omega
                    case rel => exact ⟨(wrap64 (x10_2 + 1)), cl, H', ⟨by have := HK1.out; have := HK2.out; omega⟩, ⟨by (with_reducible repeat (first | apply Kd.R_alloc | apply Kd.R_drewN | apply Kd.R_drew)); exact HO_5.out⟩, ⟨by repeat (first | (with_reducible first | exact HB.out | apply below_alloc | apply pw_below_drewN | apply below_drew1) | exact HB.out)⟩⟩
                  ·rw [if_neg c33] at H
                   exact absurd H (by simp)
                 ·rw [if_neg c32] at H
                  have c32b0 : decide (x10_2 < (ex1_.size : Int)) = false := decide_eq_false c32
                  clear c32
                  (first | rw [c32b0] | (simp only [i64_w, i32_w]; rw [c32b0]) | skip)
                  have H' := Aside0.mk H
                  clear H
                  go_wp2
                  go_meet
                  case rel => exact ⟨_, (x10_2), cl, H', ⟨by have := HK1.out; have := HK2.out; first | omega | exact Nat.le_refl _⟩, ⟨by (with_reducible repeat (first | apply Kd.R_alloc | apply Kd.R_drewN | apply Kd.R_drew)); exact HO_5.out⟩, ⟨by repeat (first | (with_reducible first | exact HB.out | apply below_alloc | apply pw_below_drewN | apply below_drew1) | exact HB.out)⟩⟩
              case rest =>
               clear HC31
               try clear c1
               try clear p1
               try clear q1
               try clear hx1
               try clear qi1
               try clear c2
               try clear c2b0
               try clear p2
               try clear q2
               try clear hx2
               try clear hf2
               try clear c3
               try clear c3b0
               try clear c3b1
               try clear p3
               try clear q3
               try clear hx3
               try clear c4
               try clear c4b0
               try clear c4b1
               try clear p5
               try clear q5
               try clear hx5
               try clear c6
               try clear c6b0
               try clear p6
               try clear c7
               try clear c7b0
               try clear c8
               try clear c8b0
               try clear c8b1
               try clear c9
               try clear c9b0
               try clear c9b1
               try clear c10
               try clear c10b0
               try clear c10b1
               try clear c12
               try clear c12b0
               try clear c12b1
               try clear c13
               try clear c13b0
               try clear c13b1
               try clear c14
               try clear c14b0
               try clear c16
               try clear c17
               try clear c17b0
               try clear c17b1
               try clear p18
               try clear q18
               try clear hx18
               try clear qi18
               try clear c20
               try clear c21
               try clear c21b0
               try clear c21b1
               try clear c21b2
               try clear c24
               try clear c24b0
               try clear c25
               try clear c25b0
               try clear c26
               try clear c26b0
               try clear c26b1
               try clear c26b2
               try clear c27
               try clear p27
               try clear q27
               try clear hx27
               try clear hf27
               try clear c29
               try clear hx29
               try clear hf29
               try clear c32
               try clear c32b0
               try clear c33
               try clear c33b0
               try clear p34
               try clear q34
               try clear hx34
               try clear c35
               try clear c35b0
               try clear c35b1
               try clear hx27_0
               try clear hx27_1
               try clear hx29_1
               try clear hx561_0
               try clear hx561_1
               try clear p1
               try clear p18
               try clear p2
               try clear p27
               try clear p34
               try clear p5
               try clear p561
               try clear p6
               try clear q1
               try clear q18
               try clear q2
               try clear q27
               try clear q34
               try clear q5
               try clear q561
               obtain ⟨kq, x10_30, rfl, HA, HJ30, HO_5, HB⟩ := hcut
               cases kq with
               | zero => exact absurd HA.out (by simp [bulletinref15_Parse.j2])
               | succ kj30 =>
                have H := HA.out
                clear HA
                simp only [bulletinref15_Parse.j2] at H
                have HC36 := Aside0.mk H
                clear H
                go_upto_region 24 with (fail)
                go_cut [87] (fun v87 wc => ∃ (kq : Nat) (x87_35 : Bool), v87 = .bool x87_35 ∧ Aside0 (bulletinref15_Parse.j3 kq a0 x5_1 x6_1 (wrap64 ((wrap64 (x7_1 + t558)) + 2)) ex1_ x10_30 x87_35 = some (r1, r2, r3)) ∧ Aside0 (kq ≤ kj30) ∧ Aside0 (Kd.R k59 59 wc w.heap.size (fun _ => True) u5 x5_1) ∧ Aside0 (Below w.heap.size w wc))
                case first =>
                 have H := HC36.out
                 clear HC36
                 by_cases c37 : x10_30 = (ex1_.size : Int)
                 ·rw [if_pos c37] at H
                  have c37b0 : (x10_30 == (ex1_.size : Int)) = true := beq_iff_eq.mpr c37
                  have c37b1 : (x10_30 != (ex1_.size : Int)) = false := bne_eq_false_iff_eq.mpr c37
                  clear c37
                  (first | rw [c37b0] | (simp only [i64_w, i32_w]; rw [c37b0]) | skip)
                  have H' := Aside0.mk H
                  clear H
                  go_wp2
                  go_meet
                  case rel => exact ⟨_, (true), cl, H', ⟨by have := HK1.out; have := HJ30.out; first | omega | exact Nat.le_refl _⟩, ⟨by (with_reducible repeat (first | apply Kd.R_alloc | apply Kd.R_drewN | apply Kd.R_drew)); exact HO_5.out⟩, ⟨by repeat (first | (with_reducible first | exact HB.out | apply below_alloc | apply pw_below_drewN | apply below_drew1) | exact HB.out)⟩⟩
                 ·rw [if_neg c37] at H
                  have c37b0 : (x10_30 == (ex1_.size : Int)) = false := beq_eq_false_iff_ne.mpr c37
                  have c37b1 : (x10_30 != (ex1_.size : Int)) = true := bne_iff_ne.mpr c37
                  (first | rw [c37b0] | (simp only [i64_w, i32_w]; rw [c37b0]) | skip)
                  by_cases c38 : 0 ≤ x10_30
                  ·rw [if_pos c38] at H
                   have c38b0 := eq_true c38
                   have c38b1 : decide (0 ≤ x10_30) = true := decide_eq_true c38
                   clear c38
                   by_cases c39 : x10_30 ≤ (ex1_.size : Int)
                   ·rw [if_pos c39] at H
                    have c39b0 := eq_true c39
                    have c39b1 : decide (x10_30 ≤ (ex1_.size : Int)) = true := decide_eq_true c39
                    replace H := Option.bind_eq_some_iff.mp H
                    obtain ⟨t563, A400, H⟩ := H
                    replace H : (bulletinref15_Parse.j3 kj30 a0 x5_1 x6_1 (wrap64 ((wrap64 (x7_1 + t558)) + 2)) ex1_ x10_30 (!t563)) = some (r1, r2, r3) := H
                    have A40 := Aside0.mk A400
                    clear A400
                    have H' := Aside0.mk H
                    clear H
                    go_wp2_with (first | (go_at_call 95; (with_reducible refine (bulletinref15_named.calls kj30 (ex1_.extract 0 (x10_30 : Int).toNat) t563 _ A40.out).mono ?_); rintro e w' ⟨rfl, ⟨nd, rfl⟩⟩))
                    go_meet
                    case rel => exact ⟨_, (!t563), cl, H', ⟨by have := HK1.out; have := HJ30.out; first | omega | exact Nat.le_refl _⟩, ⟨by (with_reducible repeat (first | apply Kd.R_alloc | apply Kd.R_drewN | apply Kd.R_drew)); exact HO_5.out⟩, ⟨by repeat (first | (with_reducible first | exact HB.out | apply below_alloc | apply pw_below_drewN | apply below_drew1) | exact HB.out)⟩⟩
                   ·rw [if_neg c39] at H
                    exact absurd H (by simp)
                  ·rw [if_neg c38] at H
                   exact absurd H (by simp)
                case rest =>
                 clear HC36
                 try clear c1
                 try clear p1
                 try clear q1
                 try clear hx1
                 try clear qi1
                 try clear c2
                 try clear c2b0
                 try clear p2
                 try clear q2
                 try clear hx2
                 try clear hf2
                 try clear c3
                 try clear c3b0
                 try clear c3b1
                 try clear p3
                 try clear q3
                 try clear hx3
                 try clear c4
                 try clear c4b0
                 try clear c4b1
                 try clear p5
                 try clear q5
                 try clear hx5
                 try clear c6
                 try clear c6b0
                 try clear p6
                 try clear c7
                 try clear c7b0
                 try clear c8
                 try clear c8b0
                 try clear c8b1
                 try clear c9
                 try clear c9b0
                 try clear c9b1
                 try clear c10
                 try clear c10b0
                 try clear c10b1
                 try clear c12
                 try clear c12b0
                 try clear c12b1
                 try clear c13
                 try clear c13b0
                 try clear c13b1
                 try clear c14
                 try clear c14b0
                 try clear c16
                 try clear c17
                 try clear c17b0
                 try clear c17b1
                 try clear p18
                 try clear q18
                 try clear hx18
                 try clear qi18
                 try clear c20
                 try clear c21
                 try clear c21b0
                 try clear c21b1
                 try clear c21b2
                 try clear c24
                 try clear c24b0
                 try clear c25
                 try clear c25b0
                 try clear c26
                 try clear c26b0
                 try clear c26b1
                 try clear c26b2
                 try clear c27
                 try clear p27
                 try clear q27
                 try clear hx27
                 try clear hf27
                 try clear c29
                 try clear hx29
                 try clear hf29
                 try clear c32
                 try clear c32b0
                 try clear c33
                 try clear c33b0
                 try clear p34
                 try clear q34
                 try clear hx34
                 try clear c35
                 try clear c35b0
                 try clear c35b1
                 try clear c37
                 try clear c37b0
                 try clear c37b1
                 try clear c38
                 try clear c38b0
                 try clear c38b1
                 try clear c39
                 try clear c39b0
                 try clear c39b1
                 try clear hx27_0
                 try clear hx27_1
                 try clear hx29_1
                 try clear hx561_0
                 try clear hx561_1
                 try clear p1
                 try clear p18
                 try clear p2
                 try clear p27
                 try clear p3
                 try clear p34
                 try clear p5
                 try clear p561
                 try clear p6
                 try clear q1
                 try clear q18
                 try clear q2
                 try clear q27
                 try clear q3
                 try clear q34
                 try clear q5
                 try clear q561
                 obtain ⟨kq, x87_35, rfl, HA, HJ35, HO_5, HB⟩ := hcut
                 cases kq with
                 | zero => exact absurd HA.out (by simp [bulletinref15_Parse.j3])
                 | succ kj35 =>
                  have H := HA.out
                  clear HA
                  simp only [bulletinref15_Parse.j3] at H
                  by_cases c41 : x87_35 = true
                  ·subst c41
                   have H1 : (some (([] : List (S59)), (⟨#[]⟩ : ByteArray), 150)) = some (r1, r2, r3) := by rw [if_pos rfl] at H; exact H
                   clear H
                   have H := H1
                   clear H1
                   simp only [Option.some.injEq, Prod.mk.injEq] at H
                   obtain ⟨rfl, rfl, rfl⟩ := H
                   go_wp2
                   go_ret3
                   exact ⟨_, by first | rfl | (simp [errW_none, errW_some] <;> rfl) | (simp [*, errW_none, errW_some] <;> rfl), by first | exact Kd.R_nil _ _ _ _ _ | exact Kd.N_nil _ _ _ _ _ | exact Kd.V_nil _ _ _ _ _ | exact Kd.Q_nil _ _ _ _ _ | exact Kd.S_nil _ _ _ _ _, by repeat (first | (with_reducible first | exact HB.out | apply below_alloc | apply pw_below_drewN | apply below_drew1) | exact HB.out)⟩
                  ·replace c41 := Bool.eq_false_iff.mpr c41
                   subst c41
                   have H1 : (if (x5_1.length : Int) = 100 then (some (([] : List (S59)), (⟨#[]⟩ : ByteArray), 8)) else (if 0 ≤ x10_30 then (if x10_30 ≤ (ex1_.size : Int) then (if 0 ≤ (wrap64 (x10_30 + 1)) then (if (wrap64 (x10_30 + 1)) ≤ (ex1_.size : Int) then (if x5_1.length < 4398046511104 then (bulletinref15_Parse.l0 kj35 a0 (x5_1 ++ [(⟨ex1_.extract 0 (x10_30 : Int).toNat, ex1_.extract ((wrap64 (x10_30 + 1)) : Int).toNat ex1_.size⟩ : S59)]) x6_1 (wrap64 ((wrap64 (x7_1 + t558)) + 2))) else (none)) else (none)) else (none)) else (none)) else (none))) = some (r1, r2, r3) := by rw [if_neg (show ¬ (false = true) by decide)] at H; exact H
                   clear H
                   have H := H1
                   clear H1
                   by_cases c42 : (x5_1.length : Int) = 100
                   ·rw [if_pos c42] at H
                    have c42b0 : ((x5_1.length : Int) == 100) = true := beq_iff_eq.mpr c42
                    have c42b1 : ((x5_1.length : Int) != 100) = false := bne_eq_false_iff_eq.mpr c42
                    clear c42
                    simp only [Option.some.injEq, Prod.mk.injEq] at H
                    obtain ⟨rfl, rfl, rfl⟩ := H
                    obtain ⟨Ao43, co43, eo43⟩ := Kd.R_slice HO_5.out
                    subst eo43
                    go_wp2
                    go_ret3
                    exact ⟨_, by first | rfl | (simp [errW_none, errW_some] <;> rfl) | (simp [*, errW_none, errW_some] <;> rfl), by first | exact Kd.R_nil _ _ _ _ _ | exact Kd.N_nil _ _ _ _ _ | exact Kd.V_nil _ _ _ _ _ | exact Kd.Q_nil _ _ _ _ _ | exact Kd.S_nil _ _ _ _ _, by repeat (first | (with_reducible first | exact HB.out | apply below_alloc | apply pw_below_drewN | apply below_drew1) | exact HB.out)⟩
                   ·rw [if_neg c42] at H
                    have c42b0 : ((x5_1.length : Int) == 100) = false := beq_eq_false_iff_ne.mpr c42
                    have c42b1 : ((x5_1.length : Int) != 100) = true := bne_iff_ne.mpr c42
                    by_cases c44 : 0 ≤ x10_30
                    ·rw [if_pos c44] at H
                     have c44b0 := eq_true c44
                     have c44b1 : decide (0 ≤ x10_30) = true := decide_eq_true c44
                     clear c44
                     by_cases c45 : x10_30 ≤ (ex1_.size : Int)
                     ·rw [if_pos c45] at H
                      have c45b0 := eq_true c45
                      have c45b1 : decide (x10_30 ≤ (ex1_.size : Int)) = true := decide_eq_true c45
                      obtain ⟨ji46, hji46⟩ : ∃ j_ : Int, (wrap64 (x10_30 + 1)) = j_ := ⟨_, rfl⟩
                      replace H : (if 0 ≤ (ji46) then (if (ji46) ≤ (ex1_.size : Int) then (if x5_1.length < 4398046511104 then (bulletinref15_Parse.l0 kj35 a0 (x5_1 ++ [(⟨ex1_.extract 0 (x10_30 : Int).toNat, ex1_.extract ((ji46) : Int).toNat ex1_.size⟩ : S59)]) x6_1 (wrap64 ((wrap64 (x7_1 + t558)) + 2))) else (none)) else (none)) else (none)) = some (r1, r2, r3) := by first | (rw [hji46] at H; exact H) | (simp only [hji46] at H ⊢; exact H)
                      have hji46w : (IntKind.i64.wrap (x10_30 + 1)) = ji46 := (i64_w _).trans hji46
                      by_cases c47 : 0 ≤ (ji46)
                      ·rw [if_pos c47] at H
                       have c47b0 := eq_true c47
                       have c47b1 : decide (0 ≤ (ji46)) = true := decide_eq_true c47
                       clear c47
                       by_cases c48 : (ji46) ≤ (ex1_.size : Int)
                       ·rw [if_pos c48] at H
                        have c48b0 := eq_true c48
                        have c48b1 : decide ((ji46) ≤ (ex1_.size : Int)) = true := decide_eq_true c48
                        by_cases c49 : x5_1.length < 4398046511104
                        ·rw [if_pos c49] at H
                         have LMc49 := Aside0.mk c49
                         clear c49
                         obtain ⟨y564, hy564⟩ : ∃ y_ : List (S59), y_ = (x5_1 ++ [(⟨ex1_.extract 0 (x10_30 : Int).toNat, ex1_.extract ((ji46) : Int).toNat ex1_.size⟩ : S59)]) := ⟨_, rfl⟩
                         replace H : (bulletinref15_Parse.l0 kj35 a0 y564 x6_1 (wrap64 ((wrap64 (x7_1 + t558)) + 2))) = some (r1, r2, r3) := by first | (rw [hy564]; with_reducible exact H) | (have H2_ := (Option.bind_some _ _).symm.trans H; rw [hy564]; with_reducible exact H2_) | (have H2_ := (Option.bind_some _ _).symm.trans H; with_reducible exact H2_) | with_reducible exact H | (rw [hy564]; exact H) | exact H
                         have Ny564 := Aside0.mk hy564
                         clear hy564
                         have H' := Aside0.mk H
                         clear H
                         obtain ⟨Ao50, co50, eo50⟩ := Kd.R_slice HO_5.out
                         subst eo50
                         try go_wp2
                         have n0_ := Aside0.mk (Kd.R_drew HO_5.out)
                         have n1_ := Aside0.mk (below_drew1 HB.out)
                         clear HO_5
                         clear HB
                         have HO_5 := n0_
                         have HB := n1_
                         clear n0_ n1_
                         refine start_ (n := 12) (S := fun w' => True) (ds := []) #[false, false, false, false, false, false, false, false, false, false, false, false] (by kernel_rfl) rfl rfl trivial (fun hHeld => ?_); refine with_tabW bulletinref15_Parse.tab28 bulletinref15_Parse.bits28 (fun HT_ HW_ => ?_)
                         generalize wc.drew = w51 at HO_5 HB hHeld ⊢
                         refine pure_ (i := 0) (N := some 91) (v := ?_) (a' := ?_) (bitsL 12 1) rfl rfl (any_of HT_.out (by kernel_rfl)) (fun _ _ _ h => h) (Or.inl ⟨by rfl, ?_⟩) ?_ ?_
                         rotate_left
                         ·intro w'
                          go_simp
                          with_reducible rfl
                         rotate_left
                         ·simp only [Act.put, List.setIfInBounds_toArray, List.set_cons_zero, List.set_cons_succ, i64_w, i32_w]
                          rfl
                         refine pure_ (i := 1) (N := some 92) (v := ?_) (a' := ?_) (bitsL 12 3) rfl rfl (any_of HT_.out (by kernel_rfl)) (fun _ _ _ h => h) (Or.inl ⟨by rfl, ?_⟩) ?_ ?_
                         rotate_left
                         ·intro w'
                          go_simp
                          with_reducible rfl
                         rotate_left
                         ·simp only [Act.put, List.setIfInBounds_toArray, List.set_cons_zero, List.set_cons_succ, i64_w, i32_w]
                          rfl
                         refine pure_ (i := 2) (N := some 93) (v := ?_) (a' := ?_) (bitsL 12 7) rfl rfl (any_of HT_.out (by kernel_rfl)) (fun _ _ _ h => h) (Or.inl ⟨by rfl, ?_⟩) ?_ ?_
                         rotate_left
                         ·intro w'
                          go_simp
                          with_reducible rfl
                         rotate_left
                         ·simp only [Act.put, List.setIfInBounds_toArray, List.set_cons_zero, List.set_cons_succ, i64_w, i32_w]
                          rfl
                         refine pure_ (i := 3) (N := some 94) (v := ?_) (a' := ?_) (bitsL 12 15) rfl rfl (any_of HT_.out (by kernel_rfl)) (fun _ _ _ h => h) (Or.inl ⟨by rfl, ?_⟩) ?_ ?_
                         rotate_left
                         ·intro w'
                          go_simp
                          with_reducible rfl
                         rotate_left
                         ·simp only [Act.put, List.setIfInBounds_toArray, List.set_cons_zero, List.set_cons_succ, i64_w, i32_w]
                          rfl
                         refine pure_ (i := 4) (N := some 95) (v := ?_) (a' := ?_) (bitsL 12 31) rfl rfl (any_of HT_.out (by kernel_rfl)) (fun _ _ _ h => h) (Or.inl ⟨by rfl, ?_⟩) ?_ ?_
                         rotate_left
                         ·intro w'
                          go_simp
                          with_reducible rfl
                         rotate_left
                         ·simp only [Act.put, List.setIfInBounds_toArray, List.set_cons_zero, List.set_cons_succ, i64_w, i32_w]
                          rfl
                         refine pure_ (i := 5) (N := some 96) (v := ?_) (a' := ?_) (bitsL 12 63) rfl rfl (any_of HT_.out (by kernel_rfl)) (fun _ _ _ h => h) (Or.inl ⟨by rfl, ?_⟩) ?_ ?_
                         rotate_left
                         ·intro w'
                          go_simp
                          with_reducible rfl
                         rotate_left
                         ·simp only [Act.put, List.setIfInBounds_toArray, List.set_cons_zero, List.set_cons_succ, i64_w, i32_w]
                          rfl
                         refine pure_ (i := 6) (N := some 97) (v := ?_) (a' := ?_) (bitsL 12 127) rfl rfl (any_of HT_.out (by kernel_rfl)) (fun _ _ _ h => h) (Or.inl ⟨by rfl, ?_⟩) ?_ ?_
                         rotate_left
                         ·intro w'
                          go_simp
                          with_reducible rfl
                         rotate_left
                         ·simp only [Act.put, List.setIfInBounds_toArray, List.set_cons_zero, List.set_cons_succ, i64_w, i32_w]
                          rfl
                         refine pure_ (i := 7) (N := some 98) (v := ?_) (a' := ?_) (bitsL 12 255) rfl rfl (any_of HT_.out (by kernel_rfl)) (fun _ _ _ h => h) (Or.inl ⟨by rfl, ?_⟩) ?_ ?_
                         rotate_left
                         ·intro w'
                          go_simp
                          with_reducible rfl
                         rotate_left
                         ·simp only [Act.put, List.setIfInBounds_toArray, List.set_cons_zero, List.set_cons_succ, i64_w, i32_w]
                          rfl
                         refine pure_ (i := 8) (N := some 99) (v := ?_) (a' := ?_) (bitsL 12 511) rfl rfl (any_of HT_.out (by kernel_rfl)) (fun _ _ _ h => h) (Or.inl ⟨by rfl, ?_⟩) ?_ ?_
                         rotate_left
                         ·intro w'
                          go_simp
                          with_reducible rfl
                         rotate_left
                         ·simp only [Act.put, List.setIfInBounds_toArray, List.set_cons_zero, List.set_cons_succ, i64_w, i32_w]
                          rfl
                         refine one_ (i := 9) (N := some 100) (bitsL 12 1023) rfl rfl (one_of HT_.out (by kernel_rfl)) (by decide) (fun K hK => ?_)
                         refine value_ (w1 := ?_) (v := ?_) (by rfl) rfl ?_ ?_
                         rotate_left 2
                         ·go_simp
                          constructor
                          ·rfl
                          ·rfl
                         refine hK.out _ _ trivial (fun hHeld => ?_)
                         clear hK K
                         refine norm_ (a' := ?_) ?_ ?_
                         rotate_left
                         ·show Act.put _ (some 100) _ = _
                          simp only [Act.put, List.setIfInBounds_toArray, List.set_cons_zero, List.set_cons_succ, i64_w, i32_w]
                          rfl
                         refine one_ (i := 10) (N := some 101) (bitsL 12 2047) rfl rfl (one_of HT_.out (by kernel_rfl)) (by decide) (fun K hK => ?_)
                         refine Kd.R_append_step k59 (w0 := w) w.heap.size (by rfl) (.tmp 91) (.tmp 100) 52 59 (.agg #[(.string ⟨#[]⟩), (.string ⟨#[]⟩)]) 32 rfl Tryd.underlying52 info59 rfl (by decide) (by omega) (.slice Ao50 x5_1.length co50) x5_1 (⟨ex1_.extract 0 (x10_30 : Int).toNat, ex1_.extract ((ji46) : Int).toNat ex1_.size⟩ : S59) [.string (ex1_.extract 0 (x10_30 : Int).toNat), .string (ex1_.extract ((ji46) : Int).toNat ex1_.size)] (fun _ => True) (fun _ => False) rfl rfl ?aP (fun _ hk => hk.elim) ?aF ?aO ?aB ?aS ?aL ?_
                         (case aP => exact k59_mkM _ _ _ (⟨ex1_.extract 0 (x10_30 : Int).toNat, ex1_.extract ((ji46) : Int).toNat ex1_.size⟩ : S59))
                         (case aB => exact bw)
                         (case aF => exact (fun _ _ => trivial))
                         (case aO => exact (by (with_reducible repeat (first | apply Kd.R_alloc | apply Kd.R_drewN | apply Kd.R_drew)); exact HO_5.out))
                         (case aS => exact (below_size bw))
                         (case aL => have := LMc49.out; omega)
                         intro v565 w52 ho hb hg hat
                         rw [← Ny564.out] at ho
                         have n0_ := Aside0.mk (hb)
                         have n1_ := Aside0.mk (ho)
                         clear HB
                         clear HO_5
                         have HB := n0_
                         have HO566 := n1_
                         clear n0_ n1_
                         clear ho hb hg hat
                         refine hK.out _ _ trivial (fun hHeld => ?_)
                         clear hK K
                         refine norm_ (a' := ?_) ?_ ?_
                         rotate_left
                         ·show Act.put _ (some 101) _ = _
                          simp only [Act.put, List.setIfInBounds_toArray, List.set_cons_zero, List.set_cons_succ, i64_w, i32_w]
                          rfl
                         refine pure_ (i := 11) (N := some 5) (v := ?_) (a' := ?_) (bitsL 12 4095) rfl rfl (any_of HT_.out (by kernel_rfl)) (fun _ _ _ h => h) (Or.inl ⟨by rfl, ?_⟩) ?_ ?_
                         rotate_left
                         ·intro w'
                          go_simp
                          with_reducible rfl
                         rotate_left
                         ·simp only [Act.put, List.setIfInBounds_toArray, List.set_cons_zero, List.set_cons_succ, i64_w, i32_w]
                          rfl
                         refine done_ (done_of HT_.out (by kernel_rfl)) ?_
                         try go_wp2
                         go_roundg kj35
                         case measure => have := HK1.out; have := HJ30.out; have := HJ35.out; omega
                         case rel => exact ⟨(y564), (x6_1), ((wrap64 ((wrap64 (x7_1 + t558)) + 2))), cl, cl, H', ⟨by have := HK1.out; have := HJ30.out; have := HJ35.out; omega⟩, ⟨by (with_reducible repeat (first | apply Kd.R_alloc | apply Kd.R_drewN | apply Kd.R_drew)); exact HO566.out⟩, ⟨by repeat (first | (with_reducible first | exact HB.out | apply below_alloc | apply pw_below_drewN | apply below_drew1) | exact HB.out)⟩⟩
                        ·rw [if_neg c49] at H
                         exact absurd H (by simp)
                       ·rw [if_neg c48] at H
                        exact absurd H (by simp)
                      ·rw [if_neg c47] at H
                       exact absurd H (by simp)
                     ·rw [if_neg c45] at H
                      exact absurd H (by simp)
                    ·rw [if_neg c44] at H
                     exact absurd H (by simp)
            ·rw [if_neg c17] at H
             exact absurd H (by simp)
           ·replace c16 := Bool.eq_false_iff.mpr c16
            subst c16
            have H1 : (some (([] : List (S59)), (⟨#[]⟩ : ByteArray), 150)) = some (r1, r2, r3) := by rw [if_neg (show ¬ (false = true) by decide)] at H; exact H
            clear H
            have H := H1
            clear H1
            simp only [Option.some.injEq, Prod.mk.injEq] at H
            obtain ⟨rfl, rfl, rfl⟩ := H
            go_wp2_with (first | ((with_reducible refine gate_callee (f := 92) rfl ?_); refine goesL_ (some 19) rfl rfl Tryd.func92 (by kernel_rfl) rfl #[.string (a0.extract (x7_1 : Int).toNat a0.size)] rfl am ?_; (with_reducible refine (bulletinref15_line.calls k1 (a0.extract (x7_1 : Int).toNat a0.size) t558 _ A5.out).mono ?_); rintro e w' ⟨rfl, ⟨nd, rfl⟩⟩; refine ⟨_, rfl, ?_⟩) | ((with_reducible refine gate_callee (f := 93) rfl ?_); refine goesL_ (some 42) rfl rfl Tryd.func93 (by kernel_rfl) rfl #[.string ex1_] rfl am ?_; (with_reducible refine (bulletinref15_textual.calls k1 ex1_ false _ A15.out).mono ?_); rintro e w' ⟨rfl, ⟨nd, rfl⟩⟩; refine ⟨_, rfl, ?_⟩))
            go_ret3
            exact ⟨_, by first | rfl | (simp [errW_none, errW_some] <;> rfl) | (simp [*, errW_none, errW_some] <;> rfl), by first | exact Kd.R_nil _ _ _ _ _ | exact Kd.N_nil _ _ _ _ _ | exact Kd.V_nil _ _ _ _ _ | exact Kd.Q_nil _ _ _ _ _ | exact Kd.S_nil _ _ _ _ _, by repeat (first | (with_reducible first | exact HB.out | apply below_alloc | apply pw_below_drewN | apply below_drew1) | exact HB.out)⟩
        ·rw [if_neg c9] at H
         exact absurd H (by simp)
       ·rw [if_neg c8] at H
        exact absurd H (by simp)
     ·rw [if_neg c4] at H
      exact absurd H (by simp)
    ·rw [if_neg c3] at H
     exact absurd H (by simp)
   ·rw [if_neg c2] at H
    have c2b0 : decide (x7_1 < (a0.size : Int)) = false := decide_eq_false c2
    clear c2
    have H' := Aside0.mk H
    clear H
    go_wp2
    go_loopg [11] k1 (fun kq v11 w' => ∃ (x5_2 : List (S59)) (x11_2 : Int), v11 = .int .i64 x11_2 ∧ Aside0 (bulletinref15_Parse.l2 kq x5_2 x6_1 x11_2 = some (r1, r2, r3)) ∧ Aside0 (kq ≤ k1) ∧ Aside0 (Kd.R k59 59 w' w.heap.size (fun _ => True) u5 x5_2) ∧ Aside0 (Below w.heap.size w w'))
    case atStart => exact ⟨(x5_1), (0), cl, H', ⟨Nat.le_refl _⟩, ⟨by (with_reducible repeat (first | apply Kd.R_alloc | apply Kd.R_drewN | apply Kd.R_drew)); exact HO_5.out⟩, ⟨by repeat (first | (with_reducible first | exact HB.out | apply below_alloc | apply pw_below_drewN | apply below_drew1) | exact HB.out)⟩⟩
    case round =>
     clear H'
     try clear c1
     try clear p1
     try clear q1
     try clear hx1
     try clear qi1
     try clear c2
     try clear c2b0
     try clear p2
     try clear q2
     try clear hx2
     try clear hf2
     try clear c3
     try clear c3b0
     try clear c3b1
     try clear p3
     try clear q3
     try clear hx3
     try clear c4
     try clear c4b0
     try clear c4b1
     try clear p5
     try clear q5
     try clear hx5
     try clear c6
     try clear c6b0
     try clear p6
     try clear c7
     try clear c7b0
     try clear c8
     try clear c8b0
     try clear c8b1
     try clear c9
     try clear c9b0
     try clear c9b1
     try clear c10
     try clear c10b0
     try clear c10b1
     try clear c12
     try clear c12b0
     try clear c12b1
     try clear c13
     try clear c13b0
     try clear c13b1
     try clear c14
     try clear c14b0
     try clear c16
     try clear c17
     try clear c17b0
     try clear c17b1
     try clear p18
     try clear q18
     try clear hx18
     try clear qi18
     try clear c20
     try clear c21
     try clear c21b0
     try clear c21b1
     try clear c21b2
     try clear c24
     try clear c24b0
     try clear c25
     try clear c25b0
     try clear c26
     try clear c26b0
     try clear c26b1
     try clear c26b2
     try clear c27
     try clear p27
     try clear q27
     try clear hx27
     try clear hf27
     try clear c29
     try clear hx29
     try clear hf29
     try clear c32
     try clear c32b0
     try clear c33
     try clear c33b0
     try clear p34
     try clear q34
     try clear hx34
     try clear c35
     try clear c35b0
     try clear c35b1
     try clear c37
     try clear c37b0
     try clear c37b1
     try clear c38
     try clear c38b0
     try clear c38b1
     try clear c39
     try clear c39b0
     try clear c39b1
     try clear c41
     try clear c42
     try clear c42b0
     try clear c42b1
     try clear c44
     try clear c44b0
     try clear c44b1
     try clear c45
     try clear c45b0
     try clear c45b1
     try clear c47
     try clear c47b0
     try clear c47b1
     try clear c48
     try clear c48b0
     try clear c48b1
     try clear c49
     try clear hx27_0
     try clear hx27_1
     try clear hx29_1
     try clear hx561_0
     try clear hx561_1
     try clear p1
     try clear p18
     try clear p2
     try clear p27
     try clear p3
     try clear p34
     try clear p5
     try clear p561
     try clear p6
     try clear q1
     try clear q18
     try clear q2
     try clear q27
     try clear q3
     try clear q34
     try clear q5
     try clear q561
     obtain ⟨x5_2, x11_2, rfl, HA, HK2, HO_5, HB⟩ := hrel
     cases gk with
     | zero => exact absurd HA.out (by simp [bulletinref15_Parse.l2])
     | succ k2 =>
      have H := HA.out
      clear HA
      simp only [bulletinref15_Parse.l2] at H
      by_cases c53 : x11_2 < (x5_2.length : Int)
      ·rw [if_pos c53] at H
       have c53b0 : decide (x11_2 < (x5_2.length : Int)) = true := decide_eq_true c53
       clear c53
       by_cases c54 : 0 ≤ x11_2
       ·rw [if_pos c54] at H
        have c54b0 : decide (0 ≤ x11_2) = true := decide_eq_true c54
        clear c54
        replace H := Option.bind_eq_some_iff.mp H
        obtain ⟨t568, A550, H⟩ := H
        replace H : (bulletinref15_Parse.l2 k2 (x5_2.set (x11_2 : Int).toNat (⟨(rd_T59 x5_2 x11_2).f0, t568⟩ : S59)) x6_1 (wrap64 (x11_2 + 1))) = some (r1, r2, r3) := H
        have A55 := Aside0.mk A550
        clear A550
        obtain ⟨y569, hy569⟩ : ∃ y_ : List (S59), y_ = (x5_2.set (x11_2 : Int).toNat (⟨(rd_T59 x5_2 x11_2).f0, t568⟩ : S59)) := ⟨_, rfl⟩
        replace H : (bulletinref15_Parse.l2 k2 y569 x6_1 (wrap64 (x11_2 + 1))) = some (r1, r2, r3) := by first | (rw [hy569]; with_reducible exact H) | (have H2_ := (Option.bind_some _ _).symm.trans H; rw [hy569]; with_reducible exact H2_) | (have H2_ := (Option.bind_some _ _).symm.trans H; with_reducible exact H2_) | with_reducible exact H | (rw [hy569]; exact H) | exact H
        have Ny569 := Aside0.mk hy569
        clear hy569
        have H' := Aside0.mk H
        clear H
        obtain ⟨Ao57, co57, eo57⟩ := Kd.R_slice HO_5.out
        subst eo57
        have p567 : 0 ≤ (x11_2 : Int) := od
        have q567 : x11_2 < (x5_2.length : Int) := od
        obtain ⟨ad567, e567, hx567_0, hx567_1⟩ := at_T59 (Kd.R_reads' HO_5.out).2.2 x11_2 p567 q567
        cases e567
        replace p567 := eq_true p567
        replace q567 := eq_true q567
        go_wp2_with (first | ((with_reducible refine gate_callee (f := 96) rfl ?_); refine goesL_ (some 115) rfl rfl Tryd.func96 (by kernel_rfl) rfl #[.string ((rd_T59 x5_2 x11_2).f1)] rfl am ?_; (with_reducible refine (bulletinref15_Trim.calls k2 ((rd_T59 x5_2 x11_2).f1) t568 _ A55.out).mono ?_); rintro e w' ⟨rfl, ⟨nd, rfl⟩⟩; refine ⟨_, rfl, ?_⟩; (try (rw [drewN_self wr]; generalize hq_ : World.drewN wr _ = wr; have n0_ : Aside0 (Kd.R k59 59 wr w.heap.size (fun _ => True) (.slice (some ad567) x5_2.length co57) x5_2) := ⟨by rw [← hq_]; exact (by (with_reducible repeat (first | apply Kd.R_alloc | apply Kd.R_drewN | apply Kd.R_drew)); exact HO_5.out)⟩; have n1_ : Aside0 (Below w.heap.size w wr) := ⟨by rw [← hq_]; exact bw⟩; clear HO_5 HB hq_; have HO_5 := n0_; have HB := n1_; clear n0_ n1_)); have p56 : 0 ≤ (x11_2 : Int) := od; have q56 : (x11_2 : Int) < ((x5_2.length : Int) : Int) := od; obtain ⟨go56, co56, eo56, gb56, gl56, cl56, HG56⟩ := Kd.R_form HO_5.out (by omega); (first | cases eo56 | (injection eo56 with ea_ en_ ec_; (first | subst ea_ | (injection ea_ with ea_; subst ea_)); subst ec_; clear en_)); have GB56 := Aside0.mk gb56; have GG56 := Aside0.mk HG56; clear gb56 gl56 HG56; (first | simp only [add_plain] at hx567_0 | skip); (first | simp only [add_plain] at hx567_1 | skip); obtain ⟨ce56, hcl56, hM56, hcc56, hfr56⟩ := Kd.R_elem HO_5.out z59 (x11_2 : Int) p56 q56; obtain rfl := k59_openM hM56; have hx56_0 : wr.cell? ⟨go56, (x11_2 : Int).toNat * 2, none⟩ = some (.string ((rd_T59 x5_2 x11_2).f0)) := hcc56 0 _ rfl; have hx56_1 : wr.cell? ⟨go56, (x11_2 : Int).toNat * 2 + 1, none⟩ = some (.string ((rd_T59 x5_2 x11_2).f1)) := hcc56 1 _ rfl; have hf56_0 : wr.frozen? ⟨go56, (x11_2 : Int).toNat * 2, none⟩ = false := hfr56 0; have hf56_1 : wr.frozen? ⟨go56, (x11_2 : Int).toNat * 2 + 1, none⟩ = false := hfr56 1; clear hcl56 hcc56 hfr56 hM56; replace p56 := eq_true p56; replace q56 := eq_true q56; have HX58 := Aside0.mk (show Kd.R k59 59 wr w.heap.size (fun _ => True) (.slice (some ⟨go56, 0, none⟩) x5_2.length co57) x5_2 from (by (with_reducible repeat (first | apply Kd.R_alloc | apply Kd.R_drewN | apply Kd.R_drew)); exact HO_5.out)); obtain ⟨ce58, hcl58, hM58, hcc58, hfr58⟩ := Kd.R_elem HX58.out z59 (x11_2 : Int) (od) (by have h_ : (x11_2 : Int) < ((x5_2.length : Int) : Int) := od; first | exact h_ | (have e_ := (Kd.R_reads' HO_5.out).1; omega) | simpa using h_); obtain rfl := k59_openM hM58; have HP58 := Kd.R_seg HX58.out (x11_2 : Int) (od) (by have h_ : (x11_2 : Int) < ((x5_2.length : Int) : Int) := od; first | exact h_ | (have e_ := (Kd.R_reads' HO_5.out).1; omega) | simpa using h_) (seg := [.string t568]) (j := 1) hcl58 hcc58 (show 2 ≤ 2 from by decide) (x' := (⟨(rd_T59 x5_2 x11_2).f0, t568⟩ : S59)) (k59_mkM _ _ _ (⟨(rd_T59 x5_2 x11_2).f0, t568⟩ : S59) ) (fun _ hk => hk); have hx58_1 := hcc58 1 _ rfl; (try simp only [show (k59).sz = 2 from rfl, Nat.mul_one, Nat.add_zero] at hx58_1); have hf58_1 := hfr58 1; (try simp only [show (k59).sz = 2 from rfl, Nat.mul_one, Nat.add_zero] at hf58_1); clear hcl58 hcc58 hfr58 hM58) | ((with_reducible refine gate_store (t := 9) (p := 117) rfl ?_); refine store_event (t := 9) (p := 117) (v := ?vo_w59) (w1 := (wr.setCell ⟨go56, (x11_2 : Int).toNat * 2 + 1, none⟩ (.string t568))) ?hg ?ho ?hn ?hr ?_; (case ho => rfl); (case hg => rfl); (case hn => rfl); (case hr => first | (go_simp; done) | (go_simp; rfl)); intro w59 hw; have hg : wr.grownBy w59 (some go56) := (by rw [hw]; exact HP58.2); have hp_ : Kd.R k59 59 w59 w.heap.size (fun _ => True) (.slice (some ⟨go56, 0, none⟩) x5_2.length co57) y569 := (by rw [hw, Ny569.out]; exact HP58.1); clear HP58; have n0_ := Aside0.mk (hp_); have n1_ := Aside0.mk ((by rw [hw]; exact below_set (HB.out) GB56.out : Below w.heap.size w w59)); clear HO_5; clear HB; have HO_5 := n0_; have HB := n1_; clear n0_ n1_; clear hg hw hp_))
        go_roundg k2
        case measure => have := HK1.out; have := HK2.out; omega
        case rel => exact ⟨(y569), (wrap64 (x11_2 + 1)), cl, H', ⟨by have := HK1.out; have := HK2.out; omega⟩, ⟨by (with_reducible repeat (first | apply Kd.R_alloc | apply Kd.R_drewN | apply Kd.R_drew)); exact HO_5.out⟩, ⟨by repeat (first | (with_reducible first | exact HB.out | apply below_alloc | apply pw_below_drewN | apply below_drew1) | exact HB.out)⟩⟩
       ·rw [if_neg c54] at H
        exact absurd H (by simp)
      ·rw [if_neg c53] at H
       have c53b0 : decide (x11_2 < (x5_2.length : Int)) = false := decide_eq_false c53
       clear c53
       simp only [Option.some.injEq, Prod.mk.injEq] at H
       obtain ⟨rfl, rfl, rfl⟩ := H
       obtain ⟨Ao60, co60, eo60⟩ := Kd.R_slice HO_5.out
       subst eo60
       go_wp2
       go_ret3
       exact ⟨_, by first | rfl | (simp [errW_none, errW_some] <;> rfl) | (simp [*, errW_none, errW_some] <;> rfl), by (with_reducible repeat (first | apply Kd.R_alloc | apply Kd.R_drewN | apply Kd.R_drew)); exact HO_5.out, by repeat (first | (with_reducible first | exact HB.out | apply below_alloc | apply pw_below_drewN | apply below_drew1) | exact HB.out)⟩

end Go.Proofs.YtlomcmdbbnbciaaDoor.Fn
-- written by xprint.py of this session over the kit's printer; not trusted: Lean checks it
namespace Go.Proofs.YtlomcmdbbnbciaaDoor.Fn
open Go.RowKit Go.Proofs.YtlomcmdbbnbciaaDoorW.PrintWords Go.Proofs.YtlomcmdbbnbciaaDoorW.PrintLast Go.Proofs.YtlomcmdbbnbciaaDoorW.PrintMore
attribute [local go_sem] max2_int min2_int max_two min_two max_three min_three max_four min_four   -- for this text's walks alone
set_option linter.unusedVariables false
set_option linter.unusedSimpArgs false

/-! ### bulletinlaw15_HeadLong: function 10 -/
mutual
def bulletinlaw15_HeadLong.j0 : Nat → Int → Int → Bool → Bool → Option (Bool)
 | 0, _, _, _, _ => none
 | k + 1, x0, x1, x2, x30 => if x30 = true then ((bulletinlaw15_works.f k).bind fun t587 => (some t587)) else (if 0 ≤ x0 then (if (x0 : Int).toNat ≤ 281474976710656 then ((some (List.replicate (x0 : Int).toNat 0 : List Int)).bind fun y588 => (bulletinlaw15_HeadLong.l0 k x1 x2 y588 (y588.length : Int) 0)) else (none)) else (none))
def bulletinlaw15_HeadLong.l0 : Nat → Int → Bool → List Int → Int → Int → Option (Bool)
 | 0, _, _, _, _, _ => none
 | k + 1, x1, x2, x7, x35, x36 => if x36 < x35 then (if 0 ≤ x36 then (if x36 < (x7.length : Int) then (bulletinlaw15_HeadLong.l0 k x1 x2 (x7.set (x36 : Int).toNat 120) x35 (wrap64 (x36 + 1))) else (none)) else (none)) else (if 1 < (x7.length : Int) then ((some (x7.set (1 : Int).toNat 58 : List Int)).bind fun y592 => (if (strOfNums y592).size + 2 ≤ 9223372036854775807 then (if x2 = true then (if ((strOfNums y592) ++ (⟨#[13, 10]⟩ : ByteArray)).size + 4 ≤ 9223372036854775807 then (bulletinlaw15_HeadLong.j2 k x1 (((strOfNums y592) ++ (⟨#[13, 10]⟩ : ByteArray)) ++ (⟨#[32, 121, 13, 10]⟩ : ByteArray))) else (none)) else (bulletinlaw15_HeadLong.j2 k x1 ((strOfNums y592) ++ (⟨#[13, 10]⟩ : ByteArray)))) else (none))) else (none))
def bulletinlaw15_HeadLong.j2 : Nat → Int → ByteArray → Option (Bool)
 | 0, _, _ => none
 | k + 1, x1, x9 => bulletinlaw15_HeadLong.l1 k x1 x9 0
def bulletinlaw15_HeadLong.l1 : Nat → Int → ByteArray → Int → Option (Bool)
 | 0, _, _, _ => none
 | k + 1, x1, x9, x10 => if x10 < x1 then (if x9.size + 5 ≤ 9223372036854775807 then (bulletinlaw15_HeadLong.l1 k x1 (x9 ++ (⟨#[97, 58, 98, 13, 10]⟩ : ByteArray)) (wrap64 (x10 + 1))) else (none)) else ((head_Parse.f k x9).bind fun bt593 => ((bulletinref15_Parse.f k x9).bind fun bt598 => ((bulletinlaw15_Same.f k bt593.1 bt598.1).bind fun t603 => (if t603 = true then (if bt593.2.1.toList = bt598.2.1.toList then (if bt593.2.2 = bt598.2.2 then ((bulletinlaw15_works.f k).bind fun t604 => (some t604)) else (some false)) else (some false)) else (some false)))))
end
def bulletinlaw15_HeadLong.f (k : Nat) (a0 : Int) (a1 : Int) (a2 : Bool) : Option (Bool) := if a0 < 2 then (bulletinlaw15_HeadLong.j0 k a0 a1 a2 true) else (if a0 > 1100 then (bulletinlaw15_HeadLong.j0 k a0 a1 a2 true) else (if a1 < 0 then (bulletinlaw15_HeadLong.j0 k a0 a1 a2 true) else (bulletinlaw15_HeadLong.j0 k a0 a1 a2 (decide (a1 > 120)))))
set_option maxHeartbeats 8000000 in
set_option maxRecDepth 100000 in
theorem bulletinlaw15_HeadLong.calls (k : Nat) (a0 : Int) (a1 : Int) (a2 : Bool) (r : Bool) (w : World) (hG : Glob w) (h : bulletinlaw15_HeadLong.f k a0 a1 a2 = some r) :
  Calls Tryd.prog 10 #[.int .i64 a0, .int .i64 a1, .bool a2] w fun e w' => e = .returned (.bool r) ∧ Below w.heap.size w w' := by
 have HB := Aside0.mk (Below.refl w.heap.size w)
 have H : (if a0 < 2 then (bulletinlaw15_HeadLong.j0 k a0 a1 a2 true) else (if a0 > 1100 then (bulletinlaw15_HeadLong.j0 k a0 a1 a2 true) else (if a1 < 0 then (bulletinlaw15_HeadLong.j0 k a0 a1 a2 true) else (bulletinlaw15_HeadLong.j0 k a0 a1 a2 (decide (a1 > 120)))))) = some r := h
 clear h
 have HC4 := Aside0.mk H
 clear H
 go_enter Tryd.func10, Tryd.ntmps10
 go_upto_region 1 with (fail)
 go_cut [30] (fun v30 wc => ∃ (kq : Nat) (x30_3 : Bool), v30 = .bool x30_3 ∧ Aside0 (bulletinlaw15_HeadLong.j0 kq a0 a1 a2 x30_3 = some r) ∧ Aside0 (kq ≤ k) ∧ Aside0 (Below w.heap.size w wc))
 case first =>
  have H := HC4.out
  clear HC4
  by_cases c5 : a0 < 2
  ·rw [if_pos c5] at H
   have c5b0 : decide (a0 < 2) = true := decide_eq_true c5
   clear c5
   (first | rw [c5b0] | (simp only [i64_w, i32_w]; rw [c5b0]) | skip)
   have H' := Aside0.mk H
   clear H
   go_wp2
   go_meet
   case rel => exact ⟨_, (true), cl, H', ⟨by first | omega | exact Nat.le_refl _⟩, ⟨by repeat (first | (with_reducible first | exact HB.out | apply below_alloc | apply pw_below_drewN | apply below_drew1) | exact HB.out)⟩⟩
  ·rw [if_neg c5] at H
   have c5b0 : decide (a0 < 2) = false := decide_eq_false c5
   clear c5
   (first | rw [c5b0] | (simp only [i64_w, i32_w]; rw [c5b0]) | skip)
   by_cases c6 : a0 > 1100
   ·rw [if_pos c6] at H
    have c6b0 : decide (1100 < a0) = true := decide_eq_true c6
    clear c6
    have H' := Aside0.mk H
    clear H
    go_wp2
    go_meet
    case rel => exact ⟨_, (true), cl, H', ⟨by first | omega | exact Nat.le_refl _⟩, ⟨by repeat (first | (with_reducible first | exact HB.out | apply below_alloc | apply pw_below_drewN | apply below_drew1) | exact HB.out)⟩⟩
   ·rw [if_neg c6] at H
    have c6b0 : decide (1100 < a0) = false := decide_eq_false c6
    clear c6
    by_cases c7 : a1 < 0
    ·rw [if_pos c7] at H
     have c7b0 : decide (a1 < 0) = true := decide_eq_true c7
     clear c7
     have H' := Aside0.mk H
     clear H
     go_wp2
     go_meet
     case rel => exact ⟨_, (true), cl, H', ⟨by first | omega | exact Nat.le_refl _⟩, ⟨by repeat (first | (with_reducible first | exact HB.out | apply below_alloc | apply pw_below_drewN | apply below_drew1) | exact HB.out)⟩⟩
    ·rw [if_neg c7] at H
     have c7b0 : decide (a1 < 0) = false := decide_eq_false c7
     clear c7
     have H' := Aside0.mk H
     clear H
     go_wp2
     go_meet
     case rel => exact ⟨_, (decide (a1 > 120)), cl, H', ⟨by first | omega | exact Nat.le_refl _⟩, ⟨by repeat (first | (with_reducible first | exact HB.out | apply below_alloc | apply pw_below_drewN | apply below_drew1) | exact HB.out)⟩⟩
 case rest =>
  clear HC4
  try clear c1
  try clear p2
  try clear c5
  try clear c5b0
  try clear c6
  try clear c6b0
  try clear c7
  try clear c7b0
  obtain ⟨kq, x30_3, rfl, HA, HJ3, HB⟩ := hcut
  cases kq with
  | zero => exact absurd HA.out (by simp [bulletinlaw15_HeadLong.j0])
  | succ kj3 =>
   have H := HA.out
   clear HA
   simp only [bulletinlaw15_HeadLong.j0] at H
   by_cases c8 : x30_3 = true
   ·subst c8
    have H1 : ((bulletinlaw15_works.f kj3).bind fun t587 => (some t587)) = some r := by rw [if_pos rfl] at H; exact H
    clear H
    have H := H1
    clear H1
    replace H := Option.bind_eq_some_iff.mp H
    obtain ⟨t587, A90, H⟩ := H
    replace H : (some t587) = some r := H
    have A9 := Aside0.mk A90
    clear A90
    obtain rfl := Option.some.inj H
    go_wp2_with (first | ((with_reducible refine gate_callee (f := 40) rfl ?_); refine goesL_ (some 31) rfl rfl Tryd.func40 (by kernel_rfl) rfl #[] rfl am ?_; (with_reducible refine (bulletinlaw15_works.calls (hG := by first | exact hG | exact Glob.below hG (by first | exact HB.out | (repeat (first | (with_reducible first | exact HB.out | apply below_alloc | apply pw_below_drewN | apply below_drew1) | exact HB.out))) | exact Glob.drawn hG (by repeat (first | exact Drawn0.refl _ | apply Drawn0.step))) kj3  t587 _ A9.out).mono ?_); rintro e w10 ⟨rfl, hb⟩; refine ⟨_, rfl, ?_⟩; have n0_ := Aside0.mk (below_step bw hb); clear HB; have HB := n0_; clear n0_; (try clear hb); (try clear hb2); (try clear hk); (try clear hi)))
    go_ret
    exact ⟨by first | rfl | (simp [errW_none, errW_some] <;> rfl) | (simp [*, errW_none, errW_some] <;> rfl), by repeat (first | (with_reducible first | exact HB.out | apply below_alloc | apply pw_below_drewN | apply below_drew1) | exact HB.out)⟩
   ·replace c8 := Bool.eq_false_iff.mpr c8
    subst c8
    have H1 : (if 0 ≤ a0 then (if (a0 : Int).toNat ≤ 281474976710656 then ((some (List.replicate (a0 : Int).toNat 0 : List Int)).bind fun y588 => (bulletinlaw15_HeadLong.l0 kj3 a1 a2 y588 (y588.length : Int) 0)) else (none)) else (none)) = some r := by rw [if_neg (show ¬ (false = true) by decide)] at H; exact H
    clear H
    have H := H1
    clear H1
    by_cases c11 : 0 ≤ a0
    ·rw [if_pos c11] at H
     have c11b0 := eq_true c11
     have c11b1 : decide (0 ≤ a0) = true := decide_eq_true c11
     clear c11
     by_cases c12 : (a0 : Int).toNat ≤ 281474976710656
     ·rw [if_pos c12] at H
      have c12b0 := eq_true c12
      have c12b1 : decide ((a0 : Int).toNat ≤ 281474976710656) = true := decide_eq_true c12
      clear c12
      obtain ⟨y588, hy588⟩ : ∃ y_ : List Int, y_ = (List.replicate (a0 : Int).toNat 0) := ⟨_, rfl⟩
      replace H : (bulletinlaw15_HeadLong.l0 kj3 a1 a2 y588 (y588.length : Int) 0) = some r := by first | (rw [hy588]; with_reducible exact H) | (have H2_ := (Option.bind_some _ _).symm.trans H; rw [hy588]; with_reducible exact H2_) | (have H2_ := (Option.bind_some _ _).symm.trans H; with_reducible exact H2_) | with_reducible exact H | (rw [hy588]; exact H) | exact H
      have Ny588 := Aside0.mk hy588
      clear hy588
      have H' := Aside0.mk H
      clear H
      go_wp2_with (first | ((with_reducible refine gate_dst (N := 33) rfl ?_); refine Kd.R_make (Kd.int .u8) _ 5 rfl (N := 33) rfl 56 _ _ rfl a0 rfl rfl Tryd.underlying56 (.int .u8 0) 1 info5 rfl (by decide) (by omega) 0 (ok := fun _ => True) (okp := fun _ => True) rfl (fun _ hk => hk) trivial (od) (Nat.le_trans (Nat.mul_le_mul_right _ (od : a0.toNat ≤ 281474976710656)) (by omega)) (Below.refl _ _) (Nat.le_refl _) ?_; intro v589 w13 ho14 hb hg_ hnew_; clear hg_ hnew_; (first | rw [← Ny588.out] at ho14 | (simp only [Int.reduceToNat] at ho14; rw [← Ny588.out] at ho14)); have n0_ := Aside0.mk (Kd.R_lower ho14 (below_size bw)); have n1_ := Aside0.mk (below_step bw hb); clear HB; have HO590 := n0_; have HB := n1_; clear n0_ n1_; clear hb ho14; obtain ⟨Ao15, co15, eo15⟩ := Kd.R_slice HO590.out; subst eo15))
      go_loopg [36] kj3 (fun kq v36 w' => ∃ (x7_2 : List Int) (x36_2 : Int), v36 = .int .i64 x36_2 ∧ Aside0 (bulletinlaw15_HeadLong.l0 kq a1 a2 x7_2 (y588.length : Int) x36_2 = some r) ∧ Aside0 (kq ≤ kj3) ∧ Aside0 (Kd.R (Kd.int .u8) 5 w' w.heap.size (fun _ => True) (.slice Ao15 y588.length co15) x7_2) ∧ Aside0 (Below w.heap.size w w'))
      case atStart => exact ⟨(y588), (0), cl, H', ⟨Nat.le_refl _⟩, ⟨by (with_reducible repeat (first | apply Kd.R_alloc | apply Kd.R_drewN | apply Kd.R_drew)); exact HO590.out⟩, ⟨by repeat (first | (with_reducible first | exact HB.out | apply below_alloc | apply pw_below_drewN | apply below_drew1) | exact HB.out)⟩⟩
      case round =>
       clear H'
       try clear c1
       try clear p2
       try clear c4
       try clear c5
       try clear c5b0
       try clear c6
       try clear c6b0
       try clear c7
       try clear c7b0
       try clear c8
       try clear c10
       try clear c11
       try clear c11b0
       try clear c11b1
       try clear c12
       try clear c12b0
       try clear c12b1
       try clear p2
       obtain ⟨x7_2, x36_2, rfl, HA, HK2, HO_7, HB⟩ := hrel
       have hl7_2 := (Kd.R_reads' HO_7.out).1
       rw [hl7_2] at HO_7
       (try simp only [hl7_2])
       cases gk with
       | zero => exact absurd HA.out (by simp [bulletinlaw15_HeadLong.l0])
       | succ k2 =>
        have H := HA.out
        clear HA
        simp only [bulletinlaw15_HeadLong.l0] at H
        by_cases c16 : x36_2 < (y588.length : Int)
        ·rw [if_pos c16] at H
         have c16b0 : decide (x36_2 < (y588.length : Int)) = true := decide_eq_true c16
         clear c16
         by_cases c17 : 0 ≤ x36_2
         ·rw [if_pos c17] at H
          have c17b0 : decide (0 ≤ x36_2) = true := decide_eq_true c17
          clear c17
          by_cases c18 : x36_2 < (x7_2.length : Int)
          ·rw [if_pos c18] at H
           have c18b0 : decide (x36_2 < (x7_2.length : Int)) = true := decide_eq_true c18
           clear c18
           obtain ⟨y591, hy591⟩ : ∃ y_ : List Int, y_ = (x7_2.set (x36_2 : Int).toNat 120) := ⟨_, rfl⟩
           replace H : (bulletinlaw15_HeadLong.l0 k2 a1 a2 y591 (y588.length : Int) (wrap64 (x36_2 + 1))) = some r := by first | (rw [hy591]; with_reducible exact H) | (have H2_ := (Option.bind_some _ _).symm.trans H; rw [hy591]; with_reducible exact H2_) | (have H2_ := (Option.bind_some _ _).symm.trans H; with_reducible exact H2_) | with_reducible exact H | (rw [hy591]; exact H) | exact H
           have Ny591 := Aside0.mk hy591
           clear hy591
           have H' := Aside0.mk H
           clear H
           have p19 : 0 ≤ (x36_2 : Int) := od
           have q19 : (x36_2 : Int) < ((x7_2.length : Int) : Int) := od
           obtain ⟨go19, co19, eo19, gb19, gl19, cl19, HG19⟩ := Kd.R_form HO_7.out (by omega)
           (first | cases eo19 | (injection eo19 with ea_ en_ ec_; (first | subst ea_ | (injection ea_ with ea_; subst ea_)); subst ec_; clear en_))
           have GB19 := Aside0.mk gb19
           have GG19 := Aside0.mk HG19
           clear gb19 gl19 HG19
           obtain ⟨hx19_0, hf19_0⟩ := Kd.R_celln 0 HO_7.out (x36_2 : Int) p19 q19
           replace p19 := eq_true p19
           replace q19 := eq_true q19
           have HP20 := Kd.R_putg HO_7.out (x36_2 : Int) 120
           go_wp2_with (first | ((with_reducible refine gate_store (t := 5) (p := 41) rfl ?_); refine store_event (t := 5) (p := 41) (v := ?vo_w21) (w1 := (wr.setCell ⟨go19, (x36_2 : Int).toNat, none⟩ (.int .u8 120))) ?hg ?ho ?hn ?hr ?_; (case ho => rfl); (case hg => rfl); (case hn => rfl); (case hr => first | (go_simp; done) | (go_simp; rfl)); intro w21 hw; have hg : wr.grownBy w21 (some go19) := (by rw [hw]; exact HP20.2); have hp_ : Kd.R (Kd.int .u8) 5 w21 w.heap.size (fun _ => True) (.slice (some ⟨go19, 0, none⟩) x7_2.length co15) y591 := (by rw [hw, Ny591.out]; exact HP20.1); clear HP20; have n0_ := Aside0.mk (hp_); have n1_ := Aside0.mk ((by rw [hw]; exact below_set (HB.out) GB19.out : Below w.heap.size w w21)); clear HO_7; clear HB; have HO_7 := n0_; have HB := n1_; clear n0_ n1_; clear hg hw hp_))
           (try simp only [← hl7_2])
           go_roundg k2
           case measure => have := HJ3.out; have := HK2.out; omega
           case rel => exact ⟨(y591), (wrap64 (x36_2 + 1)), cl, H', ⟨by have := HJ3.out; have := HK2.out; omega⟩, ⟨by (try simp only [hl7_2]); (with_reducible repeat (first | apply Kd.R_alloc | apply Kd.R_drewN | apply Kd.R_drew)); exact HO_7.out⟩, ⟨by repeat (first | (with_reducible first | exact HB.out | apply below_alloc | apply pw_below_drewN | apply below_drew1) | exact HB.out)⟩⟩
          ·rw [if_neg c18] at H
           exact absurd H (by simp)
         ·rw [if_neg c17] at H
          exact absurd H (by simp)
        ·rw [if_neg c16] at H
         have c16b0 : decide (x36_2 < (y588.length : Int)) = false := decide_eq_false c16
         (try simp only [hl7_2] at c16b0)
         clear c16
         by_cases c22 : 1 < (x7_2.length : Int)
         ·rw [if_pos c22] at H
          have c22b0 : decide (1 < (x7_2.length : Int)) = true := decide_eq_true c22
          have c22b1 : decide (1 < x7_2.length) = true := decide_eq_true (by omega)
          clear c22
          obtain ⟨y592, hy592⟩ : ∃ y_ : List Int, y_ = (x7_2.set (1 : Int).toNat 58) := ⟨_, rfl⟩
          replace H : (if (strOfNums y592).size + 2 ≤ 9223372036854775807 then (if a2 = true then (if ((strOfNums y592) ++ (⟨#[13, 10]⟩ : ByteArray)).size + 4 ≤ 9223372036854775807 then (bulletinlaw15_HeadLong.j2 k2 a1 (((strOfNums y592) ++ (⟨#[13, 10]⟩ : ByteArray)) ++ (⟨#[32, 121, 13, 10]⟩ : ByteArray))) else (none)) else (bulletinlaw15_HeadLong.j2 k2 a1 ((strOfNums y592) ++ (⟨#[13, 10]⟩ : ByteArray)))) else (none)) = some r := by first | (rw [hy592]; with_reducible exact H) | (have H2_ := (Option.bind_some _ _).symm.trans H; rw [hy592]; with_reducible exact H2_) | (have H2_ := (Option.bind_some _ _).symm.trans H; with_reducible exact H2_) | with_reducible exact H | (rw [hy592]; exact H) | exact H
          have Ny592 := Aside0.mk hy592
          clear hy592
          by_cases c24 : (strOfNums y592).size + 2 ≤ 9223372036854775807
          ·rw [if_pos c24] at H
           have c24b0 := eq_true c24
           have c24b1 : decide ((strOfNums y592).size + 2 ≤ 9223372036854775807) = true := decide_eq_true c24
           try have c24b2 : (9223372036854775807 < (strOfNums y592).size + 2) = False := eq_false (Nat.not_lt.2 c24)
           have HC25 := Aside0.mk H
           clear H
           have p23 : 0 ≤ (1 : Int) := (by omega)
           have q23 : (1 : Int) < ((x7_2.length : Int) : Int) := od
           have qi23 : (1 < x7_2.length) = True := eq_true (by omega)
           obtain ⟨go23, co23, eo23, gb23, gl23, cl23, HG23⟩ := Kd.R_form HO_7.out (by omega)
           (first | cases eo23 | (injection eo23 with ea_ en_ ec_; (first | subst ea_ | (injection ea_ with ea_; subst ea_)); subst ec_; clear en_))
           have GB23 := Aside0.mk gb23
           have GG23 := Aside0.mk HG23
           clear gb23 gl23 HG23
           obtain ⟨hx23_0, hf23_0⟩ := Kd.R_celln 0 HO_7.out (1 : Int) p23 q23
           (try rw [show ((1 : Int)).toNat = 1 from rfl] at hx23_0)
           (try simp only [Nat.reduceMul, Nat.zero_mul, Nat.zero_add, Nat.reduceAdd] at hx23_0)
           (try rw [show ((1 : Int)).toNat = 1 from rfl] at hf23_0)
           (try simp only [Nat.reduceMul, Nat.zero_mul, Nat.zero_add, Nat.reduceAdd] at hf23_0)
           replace p23 := eq_true p23
           replace q23 := eq_true q23
           have HP26 := Kd.R_putg HO_7.out (1 : Int) 58
           go_upto_if 48 with (first | ((with_reducible refine gate_store (t := 5) (p := 44) rfl ?_); refine store_event (t := 5) (p := 44) (v := ?vo_w27) (w1 := (wr.setCell ⟨go23, (1 : Int).toNat, none⟩ (.int .u8 58))) ?hg ?ho ?hn ?hr ?_; (case ho => rfl); (case hg => rfl); (case hn => rfl); (case hr => first | (go_simp; done) | (go_simp; rfl)); intro w27 hw; have hg : wr.grownBy w27 (some go23) := (by rw [hw]; exact HP26.2); have hp_ : Kd.R (Kd.int .u8) 5 w27 w.heap.size (fun _ => True) (.slice (some ⟨go23, 0, none⟩) x7_2.length co15) y592 := (by rw [hw, Ny592.out]; exact HP26.1); clear HP26; have n0_ := Aside0.mk (hp_); have n1_ := Aside0.mk ((by rw [hw]; exact below_set (HB.out) GB23.out : Below w.heap.size w w27)); clear HO_7; clear HB; have HO_7 := n0_; have HB := n1_; clear n0_ n1_; clear hg hw hp_; have hcv28 := own_string (P := Tryd.prog) Tryd.underlying56 Tryd.underlying5 Tryd.underlying9 (Kd.own_of_R HO_7.out)))
           (try simp only [Act.put, List.setIfInBounds_toArray, List.set_cons_zero, List.set_cons_succ])
           go_cut [9] (fun v9 wc => ∃ (kq : Nat) (x9_24 : ByteArray), v9 = .string x9_24 ∧ Aside0 (bulletinlaw15_HeadLong.j2 kq a1 x9_24 = some r) ∧ Aside0 (kq ≤ k2) ∧ Aside0 (Below w.heap.size w wc))
           case first =>
            have H := HC25.out
            clear HC25
            by_cases c29 : a2 = true
            ·subst c29
             have H1 : (if ((strOfNums y592) ++ (⟨#[13, 10]⟩ : ByteArray)).size + 4 ≤ 9223372036854775807 then (bulletinlaw15_HeadLong.j2 k2 a1 (((strOfNums y592) ++ (⟨#[13, 10]⟩ : ByteArray)) ++ (⟨#[32, 121, 13, 10]⟩ : ByteArray))) else (none)) = some r := by rw [if_pos rfl] at H; exact H
             clear H
             have H := H1
             clear H1
             by_cases c30 : ((strOfNums y592) ++ (⟨#[13, 10]⟩ : ByteArray)).size + 4 ≤ 9223372036854775807
             ·rw [if_pos c30] at H
              have c30b0 := eq_true c30
              have c30b1 : decide (((strOfNums y592) ++ (⟨#[13, 10]⟩ : ByteArray)).size + 4 ≤ 9223372036854775807) = true := decide_eq_true c30
              try have c30b2 : (9223372036854775807 < ((strOfNums y592) ++ (⟨#[13, 10]⟩ : ByteArray)).size + 4) = False := eq_false (Nat.not_lt.2 c30)
              try (have c30b3 := c30; simp only [ByteArray.size_append, size_lit, ByteArray.size_extract, List.size_toArray, List.length_cons, List.length_nil, Nat.zero_add, Nat.reduceAdd] at c30b3; have c30b4 := eq_false (Nat.not_lt.2 c30b3))
              have H' := Aside0.mk H
              clear H
              go_wp2
              go_meet
              case rel => exact ⟨_, (((strOfNums y592) ++ (⟨#[13, 10]⟩ : ByteArray)) ++ (⟨#[32, 121, 13, 10]⟩ : ByteArray)), cl, H', ⟨by have := HJ3.out; have := HK2.out; first | omega | exact Nat.le_refl _⟩, ⟨by repeat (first | (with_reducible first | exact HB.out | apply below_alloc | apply pw_below_drewN | apply below_drew1) | exact HB.out)⟩⟩
             ·rw [if_neg c30] at H
              exact absurd H (by simp)
            ·replace c29 := Bool.eq_false_iff.mpr c29
             subst c29
             have H1 : (bulletinlaw15_HeadLong.j2 k2 a1 ((strOfNums y592) ++ (⟨#[13, 10]⟩ : ByteArray))) = some r := by rw [if_neg (show ¬ (false = true) by decide)] at H; exact H
             clear H
             have H := H1
             clear H1
             have H' := Aside0.mk H
             clear H
             go_wp2
             go_meet
             case rel => exact ⟨_, ((strOfNums y592) ++ (⟨#[13, 10]⟩ : ByteArray)), cl, H', ⟨by have := HJ3.out; have := HK2.out; first | omega | exact Nat.le_refl _⟩, ⟨by repeat (first | (with_reducible first | exact HB.out | apply below_alloc | apply pw_below_drewN | apply below_drew1) | exact HB.out)⟩⟩
           case rest =>
            clear HC25
            try clear c1
            try clear p1
            try clear q1
            try clear hx1
            try clear c2
            try clear p2
            try clear q2
            try clear hx2
            try clear hcv2
            try clear qi2
            try clear c3
            try clear c4
            try clear c5
            try clear c5b0
            try clear c6
            try clear c6b0
            try clear p6
            try clear c7
            try clear c7b0
            try clear c8
            try clear c10
            try clear c11
            try clear c11b0
            try clear c11b1
            try clear c12
            try clear c12b0
            try clear c12b1
            try clear c16
            try clear c16b0
            try clear c17
            try clear c17b0
            try clear c18
            try clear c18b0
            try clear p19
            try clear q19
            try clear hx19
            try clear hf19
            try clear c22
            try clear c22b0
            try clear c22b1
            try clear p23
            try clear q23
            try clear hx23
            try clear qi23
            try clear hf23
            try clear c24
            try clear c24b0
            try clear c24b1
            try clear c24b2
            try clear hcv28
            try clear c29
            try clear c30
            try clear c30b0
            try clear c30b1
            try clear c30b2
            try clear hx19_0
            try clear hx23_0
            try clear p19
            try clear p2
            try clear p23
            try clear q19
            try clear q23
            obtain ⟨kq, x9_24, rfl, HA, HJ24, HB⟩ := hcut
            cases kq with
            | zero => exact absurd HA.out (by simp [bulletinlaw15_HeadLong.j2])
            | succ kj24 =>
             have H := HA.out
             clear HA
             simp only [bulletinlaw15_HeadLong.j2] at H
             have H' := Aside0.mk H
             clear H
             go_wp2
             go_loopg [9, 10] kj24 (fun kq v9 v10 w' => ∃ (x9_4 : ByteArray) (x10_4 : Int), v9 = .string x9_4 ∧ v10 = .int .i64 x10_4 ∧ Aside0 (bulletinlaw15_HeadLong.l1 kq a1 x9_4 x10_4 = some r) ∧ Aside0 (kq ≤ kj24) ∧ Aside0 (Below w.heap.size w w'))
             case atStart => exact ⟨(x9_24), (0), cl, cl, H', ⟨Nat.le_refl _⟩, ⟨by repeat (first | (with_reducible first | exact HB.out | apply below_alloc | apply pw_below_drewN | apply below_drew1) | exact HB.out)⟩⟩
             case round =>
              clear H'
              try clear c1
              try clear p1
              try clear q1
              try clear hx1
              try clear c2
              try clear p2
              try clear q2
              try clear hx2
              try clear hcv2
              try clear qi2
              try clear c3
              try clear c4
              try clear c5
              try clear c5b0
              try clear c6
              try clear c6b0
              try clear p6
              try clear c7
              try clear c7b0
              try clear c8
              try clear c10
              try clear c11
              try clear c11b0
              try clear c11b1
              try clear c12
              try clear c12b0
              try clear c12b1
              try clear c16
              try clear c16b0
              try clear c17
              try clear c17b0
              try clear c18
              try clear c18b0
              try clear p19
              try clear q19
              try clear hx19
              try clear hf19
              try clear c22
              try clear c22b0
              try clear c22b1
              try clear p23
              try clear q23
              try clear hx23
              try clear qi23
              try clear hf23
              try clear c24
              try clear c24b0
              try clear c24b1
              try clear c24b2
              try clear hcv28
              try clear c29
              try clear c30
              try clear c30b0
              try clear c30b1
              try clear c30b2
              try clear hx19_0
              try clear hx23_0
              try clear p1
              try clear p19
              try clear p2
              try clear p23
              try clear p6
              try clear q1
              try clear q19
              try clear q2
              try clear q23
              obtain ⟨x9_4, x10_4, rfl, rfl, HA, HK4, HB⟩ := hrel
              cases gk with
              | zero => exact absurd HA.out (by simp [bulletinlaw15_HeadLong.l1])
              | succ k4 =>
               have H := HA.out
               clear HA
               simp only [bulletinlaw15_HeadLong.l1] at H
               by_cases c31 : x10_4 < a1
               ·rw [if_pos c31] at H
                have c31b0 : decide (x10_4 < a1) = true := decide_eq_true c31
                clear c31
                by_cases c32 : x9_4.size + 5 ≤ 9223372036854775807
                ·rw [if_pos c32] at H
                 have c32b0 := eq_true c32
                 have c32b1 : decide (x9_4.size + 5 ≤ 9223372036854775807) = true := decide_eq_true c32
                 try have c32b2 : (9223372036854775807 < x9_4.size + 5) = False := eq_false (Nat.not_lt.2 c32)
                 have H' := Aside0.mk H
                 clear H
                 go_wp2
                 go_roundg k4
                 case measure => have := HJ3.out; have := HK2.out; have := HJ24.out; have := HK4.out; omega
                 case rel => exact ⟨(x9_4 ++ (⟨#[97, 58, 98, 13, 10]⟩ : ByteArray)), (wrap64 (x10_4 + 1)), cl, cl, H', ⟨by have := HJ3.out; have := HK2.out; have := HJ24.out; have := HK4.out; omega⟩, ⟨by repeat (first | (with_reducible first | exact HB.out | apply below_alloc | apply pw_below_drewN | apply below_drew1) | exact HB.out)⟩⟩
                ·rw [if_neg c32] at H
                 exact absurd H (by simp)
               ·rw [if_neg c31] at H
                have c31b0 : decide (x10_4 < a1) = false := decide_eq_false c31
                clear c31
                replace H := Option.bind_eq_some_iff.mp H
                obtain ⟨⟨t593, t594, t595⟩, A330, H⟩ := H
                replace H : ((bulletinref15_Parse.f k4 x9_4).bind fun bt598 => ((bulletinlaw15_Same.f k4 t593 bt598.1).bind fun t603 => (if t603 = true then (if t594.toList = bt598.2.1.toList then (if t595 = bt598.2.2 then ((bulletinlaw15_works.f k4).bind fun t604 => (some t604)) else (some false)) else (some false)) else (some false)))) = some r := H
                have A33 := Aside0.mk A330
                clear A330
                replace H := Option.bind_eq_some_iff.mp H
                obtain ⟨⟨t598, t599, t600⟩, A340, H⟩ := H
                replace H : ((bulletinlaw15_Same.f k4 t593 t598).bind fun t603 => (if t603 = true then (if t594.toList = t599.toList then (if t595 = t600 then ((bulletinlaw15_works.f k4).bind fun t604 => (some t604)) else (some false)) else (some false)) else (some false))) = some r := H
                have A34 := Aside0.mk A340
                clear A340
                replace H := Option.bind_eq_some_iff.mp H
                obtain ⟨t603, A350, H⟩ := H
                replace H : (if t603 = true then (if t594.toList = t599.toList then (if t595 = t600 then ((bulletinlaw15_works.f k4).bind fun t604 => (some t604)) else (some false)) else (some false)) else (some false)) = some r := H
                have A35 := Aside0.mk A350
                clear A350
                by_cases c36 : t603 = true
                ·subst c36
                 have H1 : (if t594.toList = t599.toList then (if t595 = t600 then ((bulletinlaw15_works.f k4).bind fun t604 => (some t604)) else (some false)) else (some false)) = some r := by rw [if_pos rfl] at H; exact H
                 clear H
                 have H := H1
                 clear H1
                 by_cases c37 : t594.toList = t599.toList
                 ·rw [if_pos c37] at H
                  have c37b0 : (t594.toList == t599.toList) = true := beq_iff_eq.mpr c37
                  have c37b1 : (t594.toList != t599.toList) = false := bne_eq_false_iff_eq.mpr c37
                  clear c37
                  by_cases c38 : t595 = t600
                  ·rw [if_pos c38] at H
                   have c38b0 : (t595 == t600) = true := beq_iff_eq.mpr c38
                   have c38b1 : (t595 != t600) = false := bne_eq_false_iff_eq.mpr c38
                   clear c38
                   replace H := Option.bind_eq_some_iff.mp H
                   obtain ⟨t604, A390, H⟩ := H
                   replace H : (some t604) = some r := H
                   have A39 := Aside0.mk A390
                   clear A390
                   obtain rfl := Option.some.inj H
                   go_wp2_with (first | ((with_reducible refine gate_callee (f := 41) rfl ?_); refine goesL_ (some 60) rfl rfl Tryd.func41 (by kernel_rfl) rfl #[.string x9_4] rfl am ?_; (with_reducible refine (head_Parse.calls (hG := by first | exact hG | exact Glob.below hG (by first | exact HB.out | (repeat (first | (with_reducible first | exact HB.out | apply below_alloc | apply pw_below_drewN | apply below_drew1) | exact HB.out))) | exact Glob.drawn hG (by repeat (first | exact Drawn0.refl _ | apply Drawn0.step))) k4 x9_4 t593 t594 t595 _ A33.out).mono ?_); rintro e w40 ⟨v596, rfl, ho0, hb⟩; refine ⟨_, rfl, ?_⟩; have n0_ := Aside0.mk (Kd.R_lower ho0 (below_size bw)); have n1_ := Aside0.mk (below_step bw hb); clear HB; have HO597 := n0_; have HB := n1_; clear n0_ n1_; (try clear hb); (try clear hb2); (try clear hk); (try clear hi); (try clear ho0)) | ((with_reducible refine gate_callee (f := 42) rfl ?_); refine goesL_ (some 66) rfl rfl Tryd.func42 (by kernel_rfl) rfl #[.string x9_4] rfl am ?_; (with_reducible refine (bulletinref15_Parse.calls k4 x9_4 t598 t599 t600 _ A34.out).mono ?_); rintro e w41 ⟨v601, rfl, ho0, hb⟩; refine ⟨_, rfl, ?_⟩; have n0_ := Aside0.mk (Kd.R_below (by (with_reducible repeat (first | apply Kd.R_alloc | apply Kd.R_drewN | apply Kd.R_drew)); exact HO597.out) hb); have n1_ := Aside0.mk (Kd.R_lower ho0 (below_size bw)); have n2_ := Aside0.mk (below_step bw hb); clear HO597; clear HB; have HO597 := n0_; have HO602 := n1_; have HB := n2_; clear n0_ n1_ n2_; (try clear hb); (try clear hb2); (try clear hk); (try clear hi); (try clear ho0); obtain ⟨Ao42, co42, eo42⟩ := Kd.R_slice HO597.out; subst eo42; obtain ⟨Ao43, co43, eo43⟩ := Kd.R_slice HO602.out; subst eo43) | ((with_reducible refine gate_callee (f := 43) rfl ?_); refine goesL_ (some 72) rfl rfl Tryd.func43 (by kernel_rfl) rfl #[.slice Ao42 t593.length co42, .slice Ao43 t598.length co43] rfl am ?_; (with_reducible refine (bulletinlaw15_Same.calls k4 _ _ t593 _ _ t598 true _ ?side1 ?side2 ?side3 ?side4 A35.out).mono ?_); (case side1 => repeat (first | exact (Kd.R_reads' HO597.out).2.2 | (with_reducible refine Kd.C_alloc ?_ _) | (with_reducible refine Kd.C_drewN ?_ _) | (with_reducible refine Kd.C_drew ?_))); (case side2 => exact (Kd.R_reads' HO597.out).2.1); (case side3 => repeat (first | exact (Kd.R_reads' HO602.out).2.2 | (with_reducible refine Kd.C_alloc ?_ _) | (with_reducible refine Kd.C_drewN ?_ _) | (with_reducible refine Kd.C_drew ?_))); (case side4 => exact (Kd.R_reads' HO602.out).2.1); rintro e w' ⟨rfl, ⟨nd, rfl⟩⟩; refine ⟨_, rfl, ?_⟩) | (go_at_call 40; (with_reducible refine (bulletinlaw15_works.calls (hG := by first | exact hG | exact Glob.below hG (by first | exact HB.out | (repeat (first | (with_reducible first | exact HB.out | apply below_alloc | apply pw_below_drewN | apply below_drew1) | exact HB.out))) | exact Glob.drawn hG (by repeat (first | exact Drawn0.refl _ | apply Drawn0.step))) k4  t604 _ A39.out).mono ?_); rintro e w44 ⟨rfl, hb⟩; have n0_ := Aside0.mk (Kd.R_below (by (with_reducible repeat (first | apply Kd.R_alloc | apply Kd.R_drewN | apply Kd.R_drew)); exact HO597.out) hb); have n1_ := Aside0.mk (Kd.R_below (by (with_reducible repeat (first | apply Kd.R_alloc | apply Kd.R_drewN | apply Kd.R_drew)); exact HO602.out) hb); have n2_ := Aside0.mk (below_step bw hb); clear HO597; clear HO602; clear HB; have HO597 := n0_; have HO602 := n1_; have HB := n2_; clear n0_ n1_ n2_; (try clear hb); (try clear hb2); (try clear hk); (try clear hi)))
                   go_ret
                   exact ⟨by first | rfl | (simp [errW_none, errW_some] <;> rfl) | (simp [*, errW_none, errW_some] <;> rfl), by repeat (first | (with_reducible first | exact HB.out | apply below_alloc | apply pw_below_drewN | apply below_drew1) | exact HB.out)⟩
                  ·rw [if_neg c38] at H
                   have c38b0 : (t595 == t600) = false := beq_eq_false_iff_ne.mpr c38
                   have c38b1 : (t595 != t600) = true := bne_iff_ne.mpr c38
                   obtain rfl := Option.some.inj H
                   go_wp2_with (first | ((with_reducible refine gate_callee (f := 41) rfl ?_); refine goesL_ (some 60) rfl rfl Tryd.func41 (by kernel_rfl) rfl #[.string x9_4] rfl am ?_; (with_reducible refine (head_Parse.calls (hG := by first | exact hG | exact Glob.below hG (by first | exact HB.out | (repeat (first | (with_reducible first | exact HB.out | apply below_alloc | apply pw_below_drewN | apply below_drew1) | exact HB.out))) | exact Glob.drawn hG (by repeat (first | exact Drawn0.refl _ | apply Drawn0.step))) k4 x9_4 t593 t594 t595 _ A33.out).mono ?_); rintro e w45 ⟨v596, rfl, ho0, hb⟩; refine ⟨_, rfl, ?_⟩; have n0_ := Aside0.mk (Kd.R_lower ho0 (below_size bw)); have n1_ := Aside0.mk (below_step bw hb); clear HB; have HO597 := n0_; have HB := n1_; clear n0_ n1_; (try clear hb); (try clear hb2); (try clear hk); (try clear hi); (try clear ho0)) | ((with_reducible refine gate_callee (f := 42) rfl ?_); refine goesL_ (some 66) rfl rfl Tryd.func42 (by kernel_rfl) rfl #[.string x9_4] rfl am ?_; (with_reducible refine (bulletinref15_Parse.calls k4 x9_4 t598 t599 t600 _ A34.out).mono ?_); rintro e w46 ⟨v601, rfl, ho0, hb⟩; refine ⟨_, rfl, ?_⟩; have n0_ := Aside0.mk (Kd.R_below (by (with_reducible repeat (first | apply Kd.R_alloc | apply Kd.R_drewN | apply Kd.R_drew)); exact HO597.out) hb); have n1_ := Aside0.mk (Kd.R_lower ho0 (below_size bw)); have n2_ := Aside0.mk (below_step bw hb); clear HO597; clear HB; have HO597 := n0_; have HO602 := n1_; have HB := n2_; clear n0_ n1_ n2_; (try clear hb); (try clear hb2); (try clear hk); (try clear hi); (try clear ho0); obtain ⟨Ao47, co47, eo47⟩ := Kd.R_slice HO597.out; subst eo47; obtain ⟨Ao48, co48, eo48⟩ := Kd.R_slice HO602.out; subst eo48) | ((with_reducible refine gate_callee (f := 43) rfl ?_); refine goesL_ (some 72) rfl rfl Tryd.func43 (by kernel_rfl) rfl #[.slice Ao47 t593.length co47, .slice Ao48 t598.length co48] rfl am ?_; (with_reducible refine (bulletinlaw15_Same.calls k4 _ _ t593 _ _ t598 true _ ?side1 ?side2 ?side3 ?side4 A35.out).mono ?_); (case side1 => repeat (first | exact (Kd.R_reads' HO597.out).2.2 | (with_reducible refine Kd.C_alloc ?_ _) | (with_reducible refine Kd.C_drewN ?_ _) | (with_reducible refine Kd.C_drew ?_))); (case side2 => exact (Kd.R_reads' HO597.out).2.1); (case side3 => repeat (first | exact (Kd.R_reads' HO602.out).2.2 | (with_reducible refine Kd.C_alloc ?_ _) | (with_reducible refine Kd.C_drewN ?_ _) | (with_reducible refine Kd.C_drew ?_))); (case side4 => exact (Kd.R_reads' HO602.out).2.1); rintro e w' ⟨rfl, ⟨nd, rfl⟩⟩; refine ⟨_, rfl, ?_⟩))
                   go_ret
                   exact ⟨by first | rfl | (simp [errW_none, errW_some] <;> rfl) | (simp [*, errW_none, errW_some] <;> rfl), by repeat (first | (with_reducible first | exact HB.out | apply below_alloc | apply pw_below_drewN | apply below_drew1) | exact HB.out)⟩
                 ·rw [if_neg c37] at H
                  have c37b0 : (t594.toList == t599.toList) = false := beq_eq_false_iff_ne.mpr c37
                  have c37b1 : (t594.toList != t599.toList) = true := bne_iff_ne.mpr c37
                  obtain rfl := Option.some.inj H
                  go_wp2_with (first | ((with_reducible refine gate_callee (f := 41) rfl ?_); refine goesL_ (some 60) rfl rfl Tryd.func41 (by kernel_rfl) rfl #[.string x9_4] rfl am ?_; (with_reducible refine (head_Parse.calls (hG := by first | exact hG | exact Glob.below hG (by first | exact HB.out | (repeat (first | (with_reducible first | exact HB.out | apply below_alloc | apply pw_below_drewN | apply below_drew1) | exact HB.out))) | exact Glob.drawn hG (by repeat (first | exact Drawn0.refl _ | apply Drawn0.step))) k4 x9_4 t593 t594 t595 _ A33.out).mono ?_); rintro e w49 ⟨v596, rfl, ho0, hb⟩; refine ⟨_, rfl, ?_⟩; have n0_ := Aside0.mk (Kd.R_lower ho0 (below_size bw)); have n1_ := Aside0.mk (below_step bw hb); clear HB; have HO597 := n0_; have HB := n1_; clear n0_ n1_; (try clear hb); (try clear hb2); (try clear hk); (try clear hi); (try clear ho0)) | ((with_reducible refine gate_callee (f := 42) rfl ?_); refine goesL_ (some 66) rfl rfl Tryd.func42 (by kernel_rfl) rfl #[.string x9_4] rfl am ?_; (with_reducible refine (bulletinref15_Parse.calls k4 x9_4 t598 t599 t600 _ A34.out).mono ?_); rintro e w50 ⟨v601, rfl, ho0, hb⟩; refine ⟨_, rfl, ?_⟩; have n0_ := Aside0.mk (Kd.R_below (by (with_reducible repeat (first | apply Kd.R_alloc | apply Kd.R_drewN | apply Kd.R_drew)); exact HO597.out) hb); have n1_ := Aside0.mk (Kd.R_lower ho0 (below_size bw)); have n2_ := Aside0.mk (below_step bw hb); clear HO597; clear HB; have HO597 := n0_; have HO602 := n1_; have HB := n2_; clear n0_ n1_ n2_; (try clear hb); (try clear hb2); (try clear hk); (try clear hi); (try clear ho0); obtain ⟨Ao51, co51, eo51⟩ := Kd.R_slice HO597.out; subst eo51; obtain ⟨Ao52, co52, eo52⟩ := Kd.R_slice HO602.out; subst eo52) | ((with_reducible refine gate_callee (f := 43) rfl ?_); refine goesL_ (some 72) rfl rfl Tryd.func43 (by kernel_rfl) rfl #[.slice Ao51 t593.length co51, .slice Ao52 t598.length co52] rfl am ?_; (with_reducible refine (bulletinlaw15_Same.calls k4 _ _ t593 _ _ t598 true _ ?side1 ?side2 ?side3 ?side4 A35.out).mono ?_); (case side1 => repeat (first | exact (Kd.R_reads' HO597.out).2.2 | (with_reducible refine Kd.C_alloc ?_ _) | (with_reducible refine Kd.C_drewN ?_ _) | (with_reducible refine Kd.C_drew ?_))); (case side2 => exact (Kd.R_reads' HO597.out).2.1); (case side3 => repeat (first | exact (Kd.R_reads' HO602.out).2.2 | (with_reducible refine Kd.C_alloc ?_ _) | (with_reducible refine Kd.C_drewN ?_ _) | (with_reducible refine Kd.C_drew ?_))); (case side4 => exact (Kd.R_reads' HO602.out).2.1); rintro e w' ⟨rfl, ⟨nd, rfl⟩⟩; refine ⟨_, rfl, ?_⟩))
                  go_ret
                  exact ⟨by first | rfl | (simp [errW_none, errW_some] <;> rfl) | (simp [*, errW_none, errW_some] <;> rfl), by repeat (first | (with_reducible first | exact HB.out | apply below_alloc | apply pw_below_drewN | apply below_drew1) | exact HB.out)⟩
                ·replace c36 := Bool.eq_false_iff.mpr c36
                 subst c36
                 have H1 : (some false) = some r := by rw [if_neg (show ¬ (false = true) by decide)] at H; exact H
                 clear H
                 have H := H1
                 clear H1
                 obtain rfl := Option.some.inj H
                 go_wp2_with (first | ((with_reducible refine gate_callee (f := 41) rfl ?_); refine goesL_ (some 60) rfl rfl Tryd.func41 (by kernel_rfl) rfl #[.string x9_4] rfl am ?_; (with_reducible refine (head_Parse.calls (hG := by first | exact hG | exact Glob.below hG (by first | exact HB.out | (repeat (first | (with_reducible first | exact HB.out | apply below_alloc | apply pw_below_drewN | apply below_drew1) | exact HB.out))) | exact Glob.drawn hG (by repeat (first | exact Drawn0.refl _ | apply Drawn0.step))) k4 x9_4 t593 t594 t595 _ A33.out).mono ?_); rintro e w53 ⟨v596, rfl, ho0, hb⟩; refine ⟨_, rfl, ?_⟩; have n0_ := Aside0.mk (Kd.R_lower ho0 (below_size bw)); have n1_ := Aside0.mk (below_step bw hb); clear HB; have HO597 := n0_; have HB := n1_; clear n0_ n1_; (try clear hb); (try clear hb2); (try clear hk); (try clear hi); (try clear ho0)) | ((with_reducible refine gate_callee (f := 42) rfl ?_); refine goesL_ (some 66) rfl rfl Tryd.func42 (by kernel_rfl) rfl #[.string x9_4] rfl am ?_; (with_reducible refine (bulletinref15_Parse.calls k4 x9_4 t598 t599 t600 _ A34.out).mono ?_); rintro e w54 ⟨v601, rfl, ho0, hb⟩; refine ⟨_, rfl, ?_⟩; have n0_ := Aside0.mk (Kd.R_below (by (with_reducible repeat (first | apply Kd.R_alloc | apply Kd.R_drewN | apply Kd.R_drew)); exact HO597.out) hb); have n1_ := Aside0.mk (Kd.R_lower ho0 (below_size bw)); have n2_ := Aside0.mk (below_step bw hb); clear HO597; clear HB; have HO597 := n0_; have HO602 := n1_; have HB := n2_; clear n0_ n1_ n2_; (try clear hb); (try clear hb2); (try clear hk); (try clear hi); (try clear ho0); obtain ⟨Ao55, co55, eo55⟩ := Kd.R_slice HO597.out; subst eo55; obtain ⟨Ao56, co56, eo56⟩ := Kd.R_slice HO602.out; subst eo56) | ((with_reducible refine gate_callee (f := 43) rfl ?_); refine goesL_ (some 72) rfl rfl Tryd.func43 (by kernel_rfl) rfl #[.slice Ao55 t593.length co55, .slice Ao56 t598.length co56] rfl am ?_; (with_reducible refine (bulletinlaw15_Same.calls k4 _ _ t593 _ _ t598 false _ ?side1 ?side2 ?side3 ?side4 A35.out).mono ?_); (case side1 => repeat (first | exact (Kd.R_reads' HO597.out).2.2 | (with_reducible refine Kd.C_alloc ?_ _) | (with_reducible refine Kd.C_drewN ?_ _) | (with_reducible refine Kd.C_drew ?_))); (case side2 => exact (Kd.R_reads' HO597.out).2.1); (case side3 => repeat (first | exact (Kd.R_reads' HO602.out).2.2 | (with_reducible refine Kd.C_alloc ?_ _) | (with_reducible refine Kd.C_drewN ?_ _) | (with_reducible refine Kd.C_drew ?_))); (case side4 => exact (Kd.R_reads' HO602.out).2.1); rintro e w' ⟨rfl, ⟨nd, rfl⟩⟩; refine ⟨_, rfl, ?_⟩))
                 go_ret
                 exact ⟨by first | rfl | (simp [errW_none, errW_some] <;> rfl) | (simp [*, errW_none, errW_some] <;> rfl), by repeat (first | (with_reducible first | exact HB.out | apply below_alloc | apply pw_below_drewN | apply below_drew1) | exact HB.out)⟩
          ·rw [if_neg c24] at H
           exact absurd H (by simp)
         ·rw [if_neg c22] at H
          exact absurd H (by simp)
     ·rw [if_neg c12] at H
      exact absurd H (by simp)
    ·rw [if_neg c11] at H
     exact absurd H (by simp)


end Go.Proofs.YtlomcmdbbnbciaaDoor.Fn
set_option linter.unusedVariables false
set_option linter.unusedSimpArgs false
namespace Go.Proofs.YtlomcmdbbnbciaaDoor.Pl
open Go.RowKit Go.Proofs.YtlomcmdbbnbciaaDoorW.PrintWords Go.Proofs.YtlomcmdbbnbciaaDoor.Fn

/-! head.Parse as a machine over lists of bytes. -/
abbrev Fld := Bytes × Bytes
def toP (f : Fld) : S60 := ⟨str f.1, str f.2⟩
def textB (c : UInt8) : Bool := decide (c.toNat = 9) || (!decide (c.toNat < 32) && !decide (c.toNat = 127))
def textual (s : Bytes) : Bool := s.all textB
def nameB (c : UInt8) : Bool := !decide (c.toNat < 33) && (!decide (126 < c.toNat) && !decide (c.toNat = 58))
def named (s : Bytes) : Bool := s.all nameB && (!decide (s = []) && decide (s.length ≤ 76))
def crlf : Bytes → Option Nat
  | [] => none
  | c :: r => if c = 13 ∧ r.head? = some 10 then some 0 else (crlf r).map (· + 1)
def upto (c : UInt8) : Bytes → Nat
  | [] => 0
  | d :: r => if d = c then 0 else upto c r + 1
def trim (s : Bytes) : Bytes := Lib.trimS s [32, 9]
def trimF (f : Fld) : Fld := (f.1, trim f.2)
def bad (e : Int) : List Fld × Bytes × Int := ([], [], e)
def addLast (l : List Fld) (t : Bytes) : List Fld := l.set (l.length - 1) ((l.getD (l.length - 1) ([], [])).1, (l.getD (l.length - 1) ([], [])).2 ++ t)
def growL (l : List Fld) (t : Bytes) : List Fld × Int :=
  if 998 < t.length then ([], 2) else if textual t = false then ([], 150)
  else if wb (t.headD 0) = true then (if l = [] then ([], 150) else (addLast l t, 0))
  else if upto 58 t = t.length then ([], 150) else if named (t.take (upto 58 t)) = false then ([], 150)
  else if l.length = 100 then ([], 8) else (l ++ [(t.take (upto 58 t), t.drop (upto 58 t + 1))], 0)
def parseM : Nat → Bytes → List Fld → List Fld × Bytes × Int
  | 0, _, _ => bad 9
  | n + 1, s, l => if s = [] then (l.map trimF, [], 0) else match crlf s with
    | none => bad 9
    | some i => if i = 0 then (l.map trimF, s.drop 2, 0)
      else if (growL l (s.take i)).2 = 0 then parseM n (s.drop (i + 2)) (growL l (s.take i)).1 else bad (growL l (s.take i)).2
def parseH (s : Bytes) : List Fld × Bytes × Int := parseM (s.length + 1) s []
theorem crlf_room : ∀ {s : Bytes} {i : Nat}, crlf s = some i → i + 2 ≤ s.length
  | [], i, h => by simp [crlf] at h
  | c :: r, i, h => by
    unfold crlf at h
    split at h
    · rename_i hc
      injection h with h
      subst h
      cases r with
      | nil => simp at hc
      | cons d r => simp
    · rw [Option.map_eq_some_iff] at h
      obtain ⟨j, hj, rfl⟩ := h
      have := crlf_room hj
      simp only [List.length_cons]; omega
theorem index_crlf : ∀ (s : Bytes), Lib.index s [13, 10] = (match crlf s with | some i => (i : Int) | none => -1)
  | [] => rfl
  | c :: r => by
    have ih := index_crlf r
    rw [Lib.index, crlf]
    by_cases h : c = 13 ∧ r.head? = some 10
    · rw [if_pos h]
      obtain ⟨rfl, h2⟩ := h
      cases r with
      | nil => simp at h2
      | cons d r =>
        simp at h2
        subst h2
        rw [if_pos (by simp [List.isPrefixOf])]
        rfl
    · rw [if_neg h]
      have hp : ([13, 10] : Bytes).isPrefixOf (c :: r) = false := by
        cases r with
        | nil => simp [List.isPrefixOf]
        | cons d r =>
          simp only [List.head?_cons, Option.some.injEq] at h
          simp [List.isPrefixOf]
          intro h1 h2
          exact h ⟨h1.symm, h2.symm⟩
      rw [hp, if_neg (by decide), ih]
      cases crlf r with
      | none => rfl
      | some i =>
        simp only [Option.map_some]
        rw [if_neg (by first | (simp; done) | (simp; omega))]
        show (i : Int) + 1 = ((i + 1 : Nat) : Int)
        omega
theorem cut_crlf (s : ByteArray) (h : s.size ≤ 1000000000) : strings_Cut.f s (⟨#[13, 10]⟩ : ByteArray) = some (match crlf (bs s) with
    | some i => (str ((bs s).take i), str ((bs s).drop (i + 2)), true)
    | none => (s, str [], false)) := by
  unfold strings_Cut.f
  rw [if_pos (by omega)]
  congr 1
  have e : Lib.cut s.data.toList (⟨#[13, 10]⟩ : ByteArray).data.toList = Lib.cut (bs s) [13, 10] := rfl
  rw [e]
  unfold Lib.cut
  rw [index_crlf]
  cases crlf (bs s) with
  | none => simp [str_bs]
  | some i => simp
theorem index_one (c : UInt8) : ∀ (s : Bytes), Lib.index s [c] = (if upto c s = s.length then -1 else (upto c s : Int))
  | [] => rfl
  | d :: r => by
    have ih := index_one c r
    rw [Lib.index, upto]
    by_cases h : d = c
    · subst h
      rw [if_pos (by simp [List.isPrefixOf]), if_pos rfl, if_neg (by simp)]
      rfl
    · rw [if_neg (by simp [List.isPrefixOf]; exact fun e => h e.symm), if_neg h, ih]
      simp only [List.length_cons]
      by_cases h2 : upto c r = r.length
      · rw [if_pos h2, if_pos (by decide), if_pos (by omega)]
      · rw [if_neg h2, if_neg (by first | (simp; done) | (simp; omega)), if_neg (by omega)]; omega
theorem upto_le (c : UInt8) : ∀ s : Bytes, upto c s ≤ s.length
  | [] => by simp [upto]
  | d :: r => by
    have := upto_le c r
    unfold upto
    split <;> simp only [List.length_cons] <;> omega
theorem cut_one (s : ByteArray) (h : s.size ≤ 1000000000) : strings_Cut.f s (⟨#[58]⟩ : ByteArray) = some (if upto 58 (bs s) = (bs s).length then (s, str [], false) else (str ((bs s).take (upto 58 (bs s))), str ((bs s).drop (upto 58 (bs s) + 1)), true)) := by
  unfold strings_Cut.f
  rw [if_pos (by omega)]
  congr 1
  have e : Lib.cut s.data.toList (⟨#[58]⟩ : ByteArray).data.toList = Lib.cut (bs s) [58] := rfl
  rw [e]
  unfold Lib.cut
  rw [index_one]
  by_cases h2 : upto 58 (bs s) = (bs s).length
  · rw [if_pos h2, if_neg (by decide), if_pos h2]; simp [str_bs]
  · rw [if_neg h2, if_pos (by omega), if_neg h2]; simp
theorem textual_rounds (s : ByteArray) (hs : s.size ≤ 1000000000) : ∀ (l : Bytes) (k i : Nat), (bs s).drop i = l → i ≤ s.size → l.length < k → head_text.l0 k s (s.size : Int) (i : Int) = some (l.all textB) := by
  intro l
  induction l with
  | nil =>
    intro k i h hi hk
    obtain ⟨k, rfl⟩ : ∃ m, k = m + 1 := ⟨k - 1, by omega⟩
    have := drop_nil h
    rw [bs_length] at this
    rw [head_text.l0, if_neg (by omega)]
    rfl
  | cons c r ih =>
    intro k i h hi hk
    obtain ⟨k, rfl⟩ : ∃ m, k = m + 1 := ⟨k - 1, by omega⟩
    obtain ⟨h1, h2, h3, h4⟩ := drop_cons h
    rw [bs_length] at h1
    have hn := ih k (i + 1) h3 (by omega) (by simp only [List.length_cons] at hk; omega)
    rw [head_text.l0, if_pos (by omega), if_pos (by omega), if_pos (by omega), bt_drop h, wrap_succ i (by omega), hn]
    rw [List.all_cons]
    unfold textB
    by_cases a : c.toNat < 32
    · rw [if_pos (by omega)]
      by_cases b : c.toNat = 9
      · rw [if_pos (by omega), if_neg (by omega)]; simp [b]
      · rw [if_neg (by omega)]; simp [a, b]
    · rw [if_neg (by omega)]
      by_cases b : c.toNat = 127
      · rw [if_pos (by omega)]; simp [b]
      · rw [if_neg (by omega)]; simp [a, b]
theorem headtext_is (s : ByteArray) (hs : s.size ≤ 1000000000) (k : Nat) (hk : s.size < k) : head_text.f k s = some (textual (bs s)) := by
  unfold head_text.f
  exact textual_rounds s hs (bs s) k 0 (by simp) (by omega) (by rw [bs_length]; exact hk)
theorem named_rounds (s : ByteArray) (hs : s.size ≤ 1000000000) : ∀ (l : Bytes) (k i : Nat), (bs s).drop i = l → i ≤ s.size → l.length < k → head_named.l0 k s (s.size : Int) (i : Int) = some (l.all nameB && (!decide (bs s = []) && decide ((bs s).length ≤ 76))) := by
  intro l
  induction l with
  | nil =>
    intro k i h hi hk
    obtain ⟨k, rfl⟩ : ∃ m, k = m + 1 := ⟨k - 1, by omega⟩
    have := drop_nil h
    rw [bs_length] at this
    rw [head_named.l0, if_neg (by omega), toList_bs]
    by_cases e : bs s = []
    · rw [if_pos e]; simp [e]
    · rw [if_neg e, bs_length]
      simp [e]
      omega
  | cons c r ih =>
    intro k i h hi hk
    obtain ⟨k, rfl⟩ : ∃ m, k = m + 1 := ⟨k - 1, by omega⟩
    obtain ⟨h1, h2, h3, h4⟩ := drop_cons h
    rw [bs_length] at h1
    have hn := ih k (i + 1) h3 (by omega) (by simp only [List.length_cons] at hk; omega)
    rw [head_named.l0, if_pos (by omega), if_pos (by omega), if_pos (by omega), bt_drop h, wrap_succ i (by omega), hn]
    rw [List.all_cons]
    have hnb : nameB c = (!decide (c.toNat < 33) && (!decide (126 < c.toNat) && !decide (c.toNat = 58))) := rfl
    by_cases a : c.toNat < 33
    · rw [if_pos (by omega), hnb]; simp [a]
    · rw [if_neg (by omega)]
      by_cases b : 126 < c.toNat
      · rw [if_pos (by omega), hnb]; simp [b]
      · rw [if_neg (by omega)]
        by_cases d : c.toNat = 58
        · rw [if_pos (by omega), hnb]; simp [d]
        · rw [if_neg (by omega), hnb]; simp [a, b, d]
theorem headnamed_is (s : ByteArray) (hs : s.size ≤ 1000000000) (k : Nat) (hk : s.size < k) : head_named.f k s = some (named (bs s)) := by
  unfold head_named.f
  exact named_rounds s hs (bs s) k 0 (by simp) (by omega) (by rw [bs_length]; exact hk)
theorem wb_nat (c : UInt8) : wb c = (decide (c.toNat = 32) || decide (c.toNat = 9)) := by
  unfold wb
  simp only [List.contains_cons, List.contains_nil, Bool.or_false]
  have e : ∀ n : UInt8, (c == n) = decide (c.toNat = n.toNat) := fun n => by
    rw [Bool.eq_iff_iff, beq_iff_eq, decide_eq_true_iff]
    exact ⟨fun h => by rw [h], fun h => UInt8.toNat_inj.1 h⟩
  rw [e, e]
  rfl
theorem headwhite_is (s : ByteArray) : head_white.f s = some (wb ((bs s).headD 0)) := by
  unfold head_white.f
  rw [toList_bs]
  cases h : bs s with
  | nil => rw [if_pos rfl]; rfl
  | cons c r =>
    have hb : bt s 0 = (c.toNat : Int) := bt_drop (i := 0) (by rw [List.drop_zero]; exact h)
    have hz : 0 < (s.size : Int) := by
      have := bs_length s
      rw [h, List.length_cons] at this
      omega
    rw [if_neg (by simp), if_pos hz, hb, List.headD_cons, wb_nat]
    by_cases a : c.toNat = 32
    · rw [if_pos (by omega)]; simp [a]
    · rw [if_neg (by omega)]
      simp only [a, decide_false, Bool.false_or]
      congr 1
      rw [Bool.eq_iff_iff, beq_iff_eq, decide_eq_true_iff]
      omega
end Go.Proofs.YtlomcmdbbnbciaaDoor.Pl
set_option linter.unusedVariables false
set_option linter.unusedSimpArgs false
namespace Go.Proofs.YtlomcmdbbnbciaaDoor.Pl
open Go.RowKit Go.Proofs.YtlomcmdbbnbciaaDoorW.PrintWords Go.Proofs.YtlomcmdbbnbciaaDoor.Fn

/-! head.Parse computes the machine. -/
theorem rd_toP (l : List Fld) (i : Nat) : rd_T60 (l.map toP) (i : Int) = toP (l.getD i ([], [])) := by
  unfold rd_T60
  rw [Int.toNat_natCast, List.getD_eq_getElem?_getD, List.getD_eq_getElem?_getD, List.getElem?_map]
  cases l[i]? with
  | none => rfl
  | some x => rfl
theorem last_idx (n : Nat) (h : n ≤ 1000000000) (h0 : 0 < n) : wrap64 ((n : Int) - 1) = ((n - 1 : Nat) : Int) := by
  rw [wrap_id (by omega) (by omega)]
  omega
theorem headgrow_is (l : List Fld) (t : ByteArray) (ht : t.size ≤ 1000000000) (hl : l.length ≤ 1000000000) (hv : (l.getD (l.length - 1) ([], [])).2.length ≤ 1000000000) (k : Nat) (hk : t.size + 10 < k) :
    head_grow.f k (l.map toP) t = some ((growL l (bs t)).1.map toP, (growL l (bs t)).2) := by
  obtain ⟨k, rfl⟩ : ∃ m, k = m + 2 := ⟨k - 2, by omega⟩
  have hb := bs_length t
  unfold head_grow.f growL
  by_cases h1 : (t.size : Int) > 998
  · rw [if_pos h1, if_pos (by omega)]; rfl
  rw [if_neg h1, if_neg (by omega), headtext_is t ht _ (by omega), Option.bind_some]
  cases hx : textual (bs t) with
  | false => rw [if_neg (by decide), if_pos rfl, head_grow.j0, if_pos rfl]; rfl
  | true =>
    rw [if_pos rfl, if_neg (by decide), headwhite_is, Option.bind_some]
    cases hw : wb ((bs t).headD 0) with
    | true =>
      rw [if_pos rfl, if_pos rfl, head_grow.j0]
      by_cases h0 : l = []
      · subst h0
        rw [if_pos (by rfl), if_pos rfl]; rfl
      · have hlen : 0 < l.length := by
          cases l with
          | nil => exact absurd rfl h0
          | cons a l => simp
        rw [if_neg (by simp [h0]), if_neg h0, headwhite_is, hw, Option.bind_some, if_pos rfl, List.length_map, last_idx _ hl hlen, if_pos (by omega), if_pos (by omega), rd_toP]
        have hz : (toP (l.getD (l.length - 1) ([], []))).f1.size = (l.getD (l.length - 1) ([], [])).2.length := str_size _
        rw [if_pos (by rw [hz]; omega), Int.toNat_natCast]
        have e : (⟨(toP (l.getD (l.length - 1) ([], []))).f0, (toP (l.getD (l.length - 1) ([], []))).f1 ++ t⟩ : S60) = toP ((l.getD (l.length - 1) ([], [])).1, (l.getD (l.length - 1) ([], [])).2 ++ bs t) := by
          show (⟨_, str _ ++ t⟩ : S60) = ⟨_, str (_ ++ bs t)⟩
          rw [← str_app, str_bs]
          rfl
        rw [e, ← List.map_set]
        rfl
    | false =>
      rw [if_neg (by decide), if_neg (by decide), head_grow.j0, if_neg (by decide), headwhite_is, hw, Option.bind_some, if_neg (by decide), cut_one t ht, Option.bind_some]
      have hu := upto_le 58 (bs t)
      by_cases hc : upto 58 (bs t) = (bs t).length
      · rw [if_pos hc, if_pos hc]
        simp only []
        rw [if_neg (by decide), head_grow.j1, if_pos rfl]; rfl
      · rw [if_neg hc, if_neg hc]
        simp only []
        have hn := headnamed_is (str ((bs t).take (upto 58 (bs t)))) (by rw [str_size, List.length_take]; omega) (k + 1) (by rw [str_size, List.length_take]; omega)
        rw [if_pos trivial, hn, bs_str, Option.bind_some, head_grow.j1]
        cases hm : named ((bs t).take (upto 58 (bs t))) with
        | false => rw [if_pos (by decide), if_pos rfl]; rfl
        | true =>
          rw [if_neg (by decide), List.length_map]
          by_cases h100 : l.length = 100
          · rw [if_pos (by omega), if_neg (by decide), if_pos h100]; rfl
          · rw [if_neg (by omega), if_pos (by omega), if_neg (by decide), if_neg h100, List.map_append]
            rfl
theorem headtrim_is (s : ByteArray) (hs : s.size ≤ 1000000000) : head_trim.f s = some (str (trim (bs s))) := by
  unfold head_trim.f strings_Trim.f
  rw [if_pos (by omega), if_pos (by decide), if_pos (by decide)]
  rfl
theorem trim_step (m : List Fld) (i : Nat) (h : i < m.length) : (m.set i (trimF (m.getD i ([], [])))).take (i + 1) ++ ((m.set i (trimF (m.getD i ([], [])))).drop (i + 1)).map trimF = m.take i ++ (m.drop i).map trimF := by
  have h1 : (m.set i (trimF (m.getD i ([], [])))).take (i + 1) = m.take i ++ [trimF (m.getD i ([], []))] := by
    rw [List.take_set, List.take_add_one, List.getElem?_eq_getElem h, List.set_append, if_neg (by rw [List.length_take]; omega), List.length_take, Nat.min_eq_left (by omega)]
    simp
  have h2 : (m.set i (trimF (m.getD i ([], [])))).drop (i + 1) = m.drop (i + 1) := by
    rw [List.drop_set, if_pos (by omega)]
  rw [h1, h2, List.drop_eq_getElem_cons h, List.map_cons, List.append_assoc, List.getD_eq_getElem?_getD, List.getElem?_eq_getElem h]
  rfl
theorem trim_rounds (b : ByteArray) : ∀ (n : Nat) (m : List Fld) (i k : Nat), m.length = i + n → n < k → m.length ≤ 1000000000 → (∀ f ∈ m, f.2.length ≤ 1000000000) →
    head_Parse.l1 k (m.map toP) b (m.length : Int) (i : Int) = some ((m.take i ++ (m.drop i).map trimF).map toP, b, 0) := by
  intro n
  induction n with
  | zero =>
    intro m i k h hk hm hf
    obtain ⟨k, rfl⟩ : ∃ q, k = q + 1 := ⟨k - 1, by omega⟩
    rw [head_Parse.l1, if_neg (by omega), List.take_of_length_le (by omega), List.drop_of_length_le (by omega)]
    simp
  | succ n ih =>
    intro m i k h hk hm hf
    obtain ⟨k, rfl⟩ : ∃ q, k = q + 1 := ⟨k - 1, by omega⟩
    have hi : i < m.length := by omega
    have hg : m.getD i ([], []) ∈ m := by rw [List.getD_eq_getElem?_getD, List.getElem?_eq_getElem hi]; exact List.getElem_mem hi
    have ht := headtrim_is (str (m.getD i ([], [])).2) (by rw [str_size]; exact hf _ hg)
    have hn := ih (m.set i (trimF (m.getD i ([], [])))) (i + 1) k (by rw [List.length_set]; omega) (by omega) (by rw [List.length_set]; exact hm) (by
      intro f hfm
      rcases List.mem_or_eq_of_mem_set hfm with h1 | h1
      · exact hf f h1
      · subst h1
        have h2 : (trim (m.getD i ([], [])).2).length ≤ (m.getD i ([], [])).2.length := by
          unfold trim Lib.trimS Lib.trimLeftS Lib.trimRightS
          have e1 := (List.dropWhile_sublist (fun b => ([32, 9] : Bytes).contains b) (l := (List.dropWhile (fun b => ([32, 9] : Bytes).contains b) (m.getD i ([], [])).2.reverse).reverse)).length_le
          have e2 := (List.dropWhile_sublist (fun b => ([32, 9] : Bytes).contains b) (l := (m.getD i ([], [])).2.reverse)).length_le
          rw [List.length_reverse] at e1 e2
          exact Nat.le_trans e1 e2
        exact Nat.le_trans h2 (hf _ hg))
    rw [List.length_set] at hn
    rw [head_Parse.l1, if_pos (by omega), if_pos (by omega), if_pos (by rw [List.length_map]; omega), rd_toP]
    show (head_trim.f (str (m.getD i ([], [])).2)).bind _ = _
    rw [ht, Option.bind_some, bs_str, Int.toNat_natCast, wrap_succ i (by omega)]
    have e : (m.map toP).set i (⟨(toP (m.getD i ([], []))).f0, str (trim (m.getD i ([], [])).2)⟩ : S60) = (m.set i (trimF (m.getD i ([], [])))).map toP := by
      rw [List.map_set]; rfl
    rw [e, hn, trim_step m i hi]
theorem parse_end (b : ByteArray) (l : List Fld) (k : Nat) (hk : l.length + 2 < k) (hl : l.length ≤ 1000000000) (hf : ∀ f ∈ l, f.2.length ≤ 1000000000) : head_Parse.j1 k (l.map toP) b = some ((l.map trimF).map toP, b, 0) := by
  obtain ⟨k, rfl⟩ : ∃ q, k = q + 1 := ⟨k - 1, by omega⟩
  rw [head_Parse.j1, List.length_map]
  have := trim_rounds b l.length l 0 k (by omega) (by omega) hl hf
  simpa using this
def fits (T : Nat) (l : List Fld) (n : Nat) : Prop := l.length + n ≤ T ∧ ∀ f ∈ l, f.1.length + f.2.length + n ≤ T
theorem getD_last_mem {l : List Fld} (h : l ≠ []) : l.getD (l.length - 1) ([], []) ∈ l := by
  have h0 : l.length - 1 < l.length := by
    cases l with
    | nil => exact absurd rfl h
    | cons a l => simp
  rw [List.getD_eq_getElem?_getD, List.getElem?_eq_getElem h0]
  exact List.getElem_mem h0
theorem grow_fits {T n : Nat} {l : List Fld} {t : Bytes} (h : fits T l (t.length + 2 + n)) (h0 : (growL l t).2 = 0) : fits T (growL l t).1 n := by
  unfold growL at h0 ⊢
  by_cases h1 : 998 < t.length
  · rw [if_pos h1] at h0; exact absurd h0 (by simp)
  rw [if_neg h1] at h0 ⊢
  by_cases h2 : textual t = false
  · rw [if_pos h2] at h0; exact absurd h0 (by simp)
  rw [if_neg h2] at h0 ⊢
  by_cases h3 : wb (t.headD 0) = true
  · rw [if_pos h3] at h0 ⊢
    by_cases h4 : l = []
    · rw [if_pos h4] at h0; exact absurd h0 (by simp)
    · rw [if_neg h4] at h0 ⊢
      refine ⟨by have := h.1; unfold addLast; rw [List.length_set]; omega, fun f hf => ?_⟩
      unfold addLast at hf
      rcases List.mem_or_eq_of_mem_set hf with hf | hf
      · have := h.2 f hf; omega
      · subst hf
        have := h.2 _ (getD_last_mem h4)
        show (l.getD (l.length - 1) ([], [])).1.length + ((l.getD (l.length - 1) ([], [])).2 ++ t).length + n ≤ T
        rw [List.length_append]
        omega
  · rw [if_neg h3] at h0 ⊢
    by_cases h4 : upto 58 t = t.length
    · rw [if_pos h4] at h0; exact absurd h0 (by simp)
    rw [if_neg h4] at h0 ⊢
    by_cases h5 : named (t.take (upto 58 t)) = false
    · rw [if_pos h5] at h0; exact absurd h0 (by simp)
    rw [if_neg h5] at h0 ⊢
    by_cases h6 : l.length = 100
    · rw [if_pos h6] at h0; exact absurd h0 (by simp)
    rw [if_neg h6] at h0 ⊢
    refine ⟨by have := h.1; rw [List.length_append]; simp only [List.length_cons, List.length_nil]; omega, fun f hf => ?_⟩
    rcases List.mem_append.1 hf with hf | hf
    · have := h.2 f hf; omega
    · rw [List.mem_singleton] at hf
      subst hf
      have := h.1
      simp only [List.length_take, List.length_drop]
      omega
theorem parse_rounds (T : Nat) (hT : T ≤ 100000000) : ∀ (n : Nat) (s : Bytes) (l : List Fld) (k : Nat), s.length < n → fits T l s.length → T + n + 20 < k →
    head_Parse.l0 k (str s) (l.map toP) (str []) = some ((parseM n s l).1.map toP, str (parseM n s l).2.1, (parseM n s l).2.2) := by
  intro n
  induction n with
  | zero => intro s l k h; omega
  | succ n ih =>
    intro s l k hn hf hk
    obtain ⟨k, rfl⟩ : ∃ q, k = q + 1 := ⟨k - 1, by omega⟩
    have hlen := hf.1
    have hfm : ∀ f ∈ l, f.2.length ≤ 1000000000 := fun f h => by have := hf.2 f h; omega
    rw [head_Parse.l0, parseM, toList_str]
    by_cases h0 : s = []
    · rw [if_pos h0, if_pos h0, parse_end _ l k (by omega) (by omega) hfm]
    rw [if_neg h0, if_neg h0, cut_crlf (str s) (by rw [str_size]; omega), Option.bind_some, bs_str]
    cases hc : crlf s with
    | none => simp only []; rw [if_neg (by decide)]; rfl
    | some i =>
      have hr := crlf_room hc
      simp only []
      rw [if_pos trivial, toList_str]
      by_cases hi : i = 0
      · subst hi
        rw [if_pos (by rw [List.take_zero]), if_pos rfl, parse_end _ l k (by omega) (by omega) hfm]
      · have hne : s.take i ≠ [] := by
          intro e
          have := congrArg List.length e
          rw [List.length_take, List.length_nil] at this
          omega
        have hlast : (l.getD (l.length - 1) ([], [])).2.length ≤ 1000000000 := by
          by_cases e : l = []
          · subst e; simp
          · exact hfm _ (getD_last_mem e)
        rw [if_neg hne, if_neg hi, headgrow_is l (str (s.take i)) (by rw [str_size, List.length_take]; omega) (by omega) hlast k (by rw [str_size, List.length_take]; omega), Option.bind_some, bs_str]
        simp only []
        by_cases hg : (growL l (s.take i)).2 = 0
        · rw [if_pos hg, if_pos hg]
          have hd : (s.drop (i + 2)).length = s.length - (i + 2) := List.length_drop
          refine ih _ _ k (by omega) (grow_fits ?_ hg) (by omega)
          rw [hd, List.length_take, Nat.min_eq_left (by omega)]
          have e : i + 2 + (s.length - (i + 2)) = s.length := by omega
          rw [e]
          exact hf
        · rw [if_neg hg, if_neg hg]
          rfl
theorem headparse_is (s : ByteArray) (hs : s.size ≤ 100000000) (k : Nat) (hk : 2 * s.size + 40 < k) :
    head_Parse.f k s = some ((parseH (bs s)).1.map toP, str (parseH (bs s)).2.1, (parseH (bs s)).2.2) := by
  have hb := bs_length s
  unfold head_Parse.f parseH
  have := parse_rounds s.size hs ((bs s).length + 1) (bs s) [] k (by omega) ⟨by simp; omega, by simp⟩ (by omega)
  rw [str_bs] at this
  exact this
end Go.Proofs.YtlomcmdbbnbciaaDoor.Pl
set_option linter.unusedVariables false
set_option linter.unusedSimpArgs false
namespace Go.Proofs.YtlomcmdbbnbciaaDoor.Pl
open Go.RowKit Go.Proofs.YtlomcmdbbnbciaaDoorW.PrintWords Go.Proofs.YtlomcmdbbnbciaaDoor.Fn

/-! The document's Parse computes the machine. -/
def toR (f : Fld) : S59 := ⟨str f.1, str f.2⟩
theorem rd_toR (l : List Fld) (i : Nat) : rd_T59 (l.map toR) (i : Int) = toR (l.getD i ([], [])) := by
  unfold rd_T59
  rw [Int.toNat_natCast, List.getD_eq_getElem?_getD, List.getD_eq_getElem?_getD, List.getElem?_map]
  cases l[i]? with
  | none => rfl
  | some x => rfl
theorem crlf_two (c d : UInt8) (r : Bytes) : crlf (c :: d :: r) = if c = 13 ∧ d = 10 then some 0 else (crlf (d :: r)).map (· + 1) := by
  show (if c = 13 ∧ (d :: r).head? = some 10 then some 0 else (crlf (d :: r)).map (· + 1)) = _
  simp only [List.head?_cons, Option.some.injEq]
theorem line_rounds (s : ByteArray) (hs : s.size ≤ 1000000000) : ∀ (l : Bytes) (k i : Nat), (bs s).drop i = l → i ≤ s.size → l.length < k →
    bulletinref15_line.l0 k s (i : Int) = some (match crlf l with | some j => ((i + j : Nat) : Int) | none => -1) := by
  intro l
  induction l with
  | nil =>
    intro k i h hi hk
    obtain ⟨k, rfl⟩ : ∃ m, k = m + 1 := ⟨k - 1, by omega⟩
    have := drop_nil h
    rw [bs_length] at this
    rw [bulletinref15_line.l0, wrap_succ i (by omega), if_neg (by omega)]
    rfl
  | cons c r ih =>
    intro k i h hi hk
    obtain ⟨k, rfl⟩ : ∃ m, k = m + 1 := ⟨k - 1, by omega⟩
    obtain ⟨h1, h2, h3, h4⟩ := drop_cons h
    rw [bs_length] at h1
    cases r with
    | nil =>
      have h5 := drop_nil h3
      rw [bs_length] at h5
      rw [bulletinref15_line.l0, wrap_succ i (by omega), if_neg (by omega)]
      simp [crlf]
    | cons d r =>
      obtain ⟨g1, g2, g3, g4⟩ := drop_cons h3
      rw [bs_length] at g1
      have hn := ih k (i + 1) h3 (by omega) (by simp only [List.length_cons] at hk ⊢; omega)
      have hrec : (match crlf (d :: r) with | some j => ((i + 1 + j : Nat) : Int) | none => -1) = (match (crlf (d :: r)).map (· + 1) with | some j => ((i + j : Nat) : Int) | none => -1) := by
        cases crlf (d :: r) with
        | none => rfl
        | some j => show ((i + 1 + j : Nat) : Int) = ((i + (j + 1) : Nat) : Int); omega
      rw [bulletinref15_line.l0, wrap_succ i (by omega), if_pos (by omega), if_pos (by omega), if_pos (by omega), bt_drop h, bt_drop h3, hn, hrec]
      have e : ∀ (x n : UInt8), ((x.toNat : Int) = (n.toNat : Int)) = (x = n) := fun x n => propext ⟨fun h => UInt8.toNat_inj.1 (by omega), fun h => by rw [h]⟩
      have e13 : ((c.toNat : Int) = 13) = (c = 13) := e c 13
      have e10 : ((d.toNat : Int) = 10) = (d = 10) := e d 10
      rw [crlf_two]
      simp only [e13, e10]
      by_cases a : c = 13
      · rw [if_pos a, if_pos (by omega)]
        by_cases b : d = 10
        · rw [if_pos b, if_pos ⟨a, b⟩]; rfl
        · rw [if_neg b, if_neg (fun h => b h.2)]
      · rw [if_neg a, if_neg (fun h => a h.1)]
theorem refline_is (s : ByteArray) (hs : s.size ≤ 1000000000) (k : Nat) (hk : s.size < k) : bulletinref15_line.f k s = some (match crlf (bs s) with | some j => (j : Int) | none => -1) := by
  unfold bulletinref15_line.f
  have := line_rounds s hs (bs s) k 0 (by simp) (by omega) (by rw [bs_length]; exact hk)
  simpa using this
theorem rtextual_rounds (s : ByteArray) (hs : s.size ≤ 1000000000) : ∀ (l : Bytes) (k i : Nat), (bs s).drop i = l → i ≤ s.size → l.length < k → bulletinref15_textual.l0 k s (i : Int) = some (l.all textB) := by
  intro l
  induction l with
  | nil =>
    intro k i h hi hk
    obtain ⟨k, rfl⟩ : ∃ m, k = m + 1 := ⟨k - 1, by omega⟩
    have := drop_nil h
    rw [bs_length] at this
    rw [bulletinref15_textual.l0, if_neg (by omega)]
    rfl
  | cons c r ih =>
    intro k i h hi hk
    obtain ⟨k, rfl⟩ : ∃ m, k = m + 1 := ⟨k - 1, by omega⟩
    obtain ⟨h1, h2, h3, h4⟩ := drop_cons h
    rw [bs_length] at h1
    have hn := ih k (i + 1) h3 (by omega) (by simp only [List.length_cons] at hk; omega)
    rw [bulletinref15_textual.l0, if_pos (by omega), if_pos (by omega), bt_drop h, wrap_succ i (by omega), hn, List.all_cons]
    unfold textB
    by_cases b : c.toNat = 9
    · rw [if_pos (by omega)]; simp [b]
    · rw [if_neg (by omega)]
      by_cases a : c.toNat < 32
      · rw [if_pos (by omega)]; simp [a, b]
      · rw [if_neg (by omega)]
        by_cases d : c.toNat = 127
        · rw [if_pos (by omega)]; simp [d]
        · rw [if_neg (by omega)]; simp [a, b, d]
theorem reftextual_is (s : ByteArray) (hs : s.size ≤ 1000000000) (k : Nat) (hk : s.size < k) : bulletinref15_textual.f k s = some (textual (bs s)) := by
  unfold bulletinref15_textual.f
  exact rtextual_rounds s hs (bs s) k 0 (by simp) (by omega) (by rw [bs_length]; exact hk)
theorem rnamed_rounds (s : ByteArray) (hs : s.size ≤ 1000000000) : ∀ (l : Bytes) (k i : Nat), (bs s).drop i = l → i ≤ s.size → l.length < k → bulletinref15_named.l0 k s (i : Int) = some (l.all nameB && (!decide (bs s = []) && decide ((bs s).length ≤ 76))) := by
  intro l
  induction l with
  | nil =>
    intro k i h hi hk
    obtain ⟨k, rfl⟩ : ∃ m, k = m + 1 := ⟨k - 1, by omega⟩
    have := drop_nil h
    rw [bs_length] at this
    have hb := bs_length s
    rw [bulletinref15_named.l0, if_neg (by omega)]
    by_cases e : bs s = []
    · rw [e, List.length_nil] at hb
      rw [if_neg (by omega)]; simp [e]
    · have : 0 < (bs s).length := by
        cases h : bs s with
        | nil => exact absurd h e
        | cons a b => simp
      rw [if_pos (by omega), bs_length]
      simp [e]
      omega
  | cons c r ih =>
    intro k i h hi hk
    obtain ⟨k, rfl⟩ : ∃ m, k = m + 1 := ⟨k - 1, by omega⟩
    obtain ⟨h1, h2, h3, h4⟩ := drop_cons h
    rw [bs_length] at h1
    have hn := ih k (i + 1) h3 (by omega) (by simp only [List.length_cons] at hk; omega)
    rw [bulletinref15_named.l0, if_pos (by omega), if_pos (by omega), bt_drop h, wrap_succ i (by omega), hn, List.all_cons]
    have hnb : nameB c = (!decide (c.toNat < 33) && (!decide (126 < c.toNat) && !decide (c.toNat = 58))) := rfl
    by_cases a : c.toNat < 33
    · rw [if_pos (by omega), hnb]; simp [a]
    · rw [if_neg (by omega)]
      by_cases b : 126 < c.toNat
      · rw [if_pos (by omega), hnb]; simp [b]
      · rw [if_neg (by omega)]
        by_cases d : c.toNat = 58
        · rw [if_pos (by omega), hnb]; simp [d]
        · rw [if_neg (by omega), hnb]; simp [a, b, d]
theorem refnamed_is (s : ByteArray) (hs : s.size ≤ 1000000000) (k : Nat) (hk : s.size < k) : bulletinref15_named.f k s = some (named (bs s)) := by
  unfold bulletinref15_named.f
  exact rnamed_rounds s hs (bs s) k 0 (by simp) (by omega) (by rw [bs_length]; exact hk)
theorem refblank_is (c : UInt8) : bulletinref15_blank.f (c.toNat : Int) = some (wb c) := by
  unfold bulletinref15_blank.f
  rw [wb_nat]
  by_cases a : c.toNat = 32
  · rw [if_pos (by omega)]; simp [a]
  · rw [if_neg (by omega)]
    simp only [a, decide_false, Bool.false_or]
    congr 1
    rw [Bool.eq_iff_iff, beq_iff_eq, decide_eq_true_iff]
    omega
/-! Trim -/
def ltrim (s : Bytes) : Bytes := s.dropWhile wb
def rtrim (s : Bytes) : Bytes := (s.reverse.dropWhile wb).reverse
theorem rtrim_cons (c : UInt8) (r : Bytes) : rtrim (c :: r) = if rtrim r = [] then (if wb c = true then [] else [c]) else c :: rtrim r := by
  unfold rtrim
  rw [List.reverse_cons, List.dropWhile_append]
  by_cases h : (r.reverse.dropWhile wb) = []
  · rw [h, if_pos (by simp), if_pos (by simp)]
    by_cases hc : wb c = true
    · rw [if_pos hc, List.dropWhile_cons_of_pos hc]; rfl
    · rw [if_neg hc, List.dropWhile_cons_of_neg hc]; rfl
  · rw [if_neg (by simpa using h), if_neg (by simpa using h)]
    simp
theorem trim_comm : ∀ s : Bytes, ltrim (rtrim s) = rtrim (ltrim s)
  | [] => rfl
  | c :: r => by
    have ih := trim_comm r
    by_cases hc : wb c = true
    · have e : ltrim (c :: r) = ltrim r := List.dropWhile_cons_of_pos hc
      rw [e, ← ih, rtrim_cons]
      by_cases h : rtrim r = []
      · rw [if_pos h, if_pos hc, h]
      · rw [if_neg h]; exact List.dropWhile_cons_of_pos hc
    · have e : ltrim (c :: r) = c :: r := List.dropWhile_cons_of_neg hc
      rw [e, rtrim_cons]
      by_cases h : rtrim r = []
      · rw [if_pos h, if_neg hc]; exact List.dropWhile_cons_of_neg hc
      · rw [if_neg h]; exact List.dropWhile_cons_of_neg hc
theorem trim_eq (s : Bytes) : trim s = rtrim (ltrim s) := by rw [← trim_comm]; rfl
theorem rtrim_snoc (l : Bytes) (c : UInt8) : rtrim (l ++ [c]) = if wb c = true then rtrim l else l ++ [c] := by
  unfold rtrim
  rw [List.reverse_append, List.reverse_singleton, List.singleton_append]
  by_cases hc : wb c = true
  · rw [if_pos hc, List.dropWhile_cons_of_pos hc]
  · rw [if_neg hc, List.dropWhile_cons_of_neg hc]; simp
theorem rtrim_rounds : ∀ (n : Nat) (l : Bytes) (k : Nat), l.length = n → n < k → n ≤ 1000000000 → bulletinref15_Trim.l1 k (str l) = some (str (rtrim l)) := by
  intro n
  induction n with
  | zero =>
    intro l k h hk hn
    obtain ⟨k, rfl⟩ : ∃ m, k = m + 1 := ⟨k - 1, by omega⟩
    obtain rfl := List.eq_nil_of_length_eq_zero h
    rw [bulletinref15_Trim.l1, if_neg (by rw [str_size]; simp)]
    rfl
  | succ n ih =>
    intro l k h hk hn
    obtain ⟨k, rfl⟩ : ∃ m, k = m + 1 := ⟨k - 1, by omega⟩
    obtain ⟨r, c, rfl⟩ : ∃ r c, l = r ++ [c] := by
      rcases List.eq_nil_or_concat l with e | ⟨r, c, e⟩
      · subst e; simp at h
      · exact ⟨r, c, by rw [e]; simp⟩
    rw [List.length_append] at h
    simp only [List.length_cons, List.length_nil] at h
    have hz : (str (r ++ [c])).size = r.length + 1 := by rw [str_size, List.length_append]; rfl
    have hw : wrap64 (((r.length + 1 : Nat) : Int) - 1) = (r.length : Int) := by rw [wrap_id (by omega) (by omega)]; omega
    have hbt : bt (str (r ++ [c])) (r.length : Int) = (c.toNat : Int) := bt_drop (r := []) (by rw [bs_str, List.drop_left])
    have hx : (str (r ++ [c])).extract 0 r.length = str r := by rw [str_extract, List.take_left, List.drop_zero]
    rw [bulletinref15_Trim.l1, hz, hw, if_pos (by omega), if_pos (by omega), if_pos (by omega), hbt, refblank_is, Option.bind_some, rtrim_snoc]
    by_cases hc : wb c = true
    · rw [if_pos hc, if_pos hc, if_pos (by omega), Int.toNat_natCast, hx]
      exact ih r k (by omega) (by omega) (by omega)
    · rw [if_neg hc, if_neg hc]
theorem ltrim_rounds : ∀ (l : Bytes) (k : Nat), 2 * l.length + 2 < k → l.length ≤ 1000000000 → bulletinref15_Trim.l0 k (str l) = some (str (rtrim (ltrim l))) := by
  intro l
  induction l with
  | nil =>
    intro k hk hn
    obtain ⟨k, rfl⟩ : ∃ m, k = m + 2 := ⟨k - 2, by omega⟩
    rw [bulletinref15_Trim.l0, if_neg (by rw [str_size]; simp), bulletinref15_Trim.j1]
    exact rtrim_rounds 0 [] k rfl (by simp at hk; omega) (by omega)
  | cons c r ih =>
    intro k hk hn
    obtain ⟨k, rfl⟩ : ∃ m, k = m + 2 := ⟨k - 2, by omega⟩
    have hz : (str (c :: r)).size = r.length + 1 := str_size _
    have hbt : bt (str (c :: r)) 0 = (c.toNat : Int) := bt_drop (i := 0) (by rw [bs_str, List.drop_zero])
    simp only [List.length_cons] at hk hn
    rw [bulletinref15_Trim.l0, hz, if_pos (by omega), if_pos (by omega), hbt, refblank_is, Option.bind_some]
    by_cases hc : wb c = true
    · have hx : (str (c :: r)).extract 1 (r.length + 1) = str r := by
        rw [str_extract, List.take_of_length_le (by simp)]; rfl
      rw [if_pos hc, if_pos (by omega), hx, ih (k + 1) (by omega) (by omega), show ltrim (c :: r) = ltrim r from List.dropWhile_cons_of_pos hc]
    · rw [if_neg hc, bulletinref15_Trim.j1, show ltrim (c :: r) = c :: r from List.dropWhile_cons_of_neg hc]
      exact rtrim_rounds _ (c :: r) k rfl (by simp only [List.length_cons]; omega) (by simp only [List.length_cons]; omega)
theorem reftrim_is (l : Bytes) (h : l.length ≤ 1000000000) (k : Nat) (hk : 2 * l.length + 2 < k) : bulletinref15_Trim.f k (str l) = some (str (trim l)) := by
  unfold bulletinref15_Trim.f
  rw [ltrim_rounds l k hk h, trim_eq]
theorem trim_len (s : Bytes) : (trim s).length ≤ s.length := by
  unfold trim Lib.trimS Lib.trimLeftS Lib.trimRightS
  have e1 := (List.dropWhile_sublist (fun b => ([32, 9] : Bytes).contains b) (l := (List.dropWhile (fun b => ([32, 9] : Bytes).contains b) s.reverse).reverse)).length_le
  have e2 := (List.dropWhile_sublist (fun b => ([32, 9] : Bytes).contains b) (l := s.reverse)).length_le
  rw [List.length_reverse] at e1 e2
  exact Nat.le_trans e1 e2
theorem rtrims_rounds (T : Nat) (hT : T ≤ 1000000000) (b : ByteArray) : ∀ (n : Nat) (m : List Fld) (i k : Nat), m.length = i + n → n + 2 * T + 4 < k → m.length ≤ 1000000000 → (∀ f ∈ m, f.2.length ≤ T) →
    bulletinref15_Parse.l2 k (m.map toR) b (i : Int) = some ((m.take i ++ (m.drop i).map trimF).map toR, b, 0) := by
  intro n
  induction n with
  | zero =>
    intro m i k h hk hm hf
    obtain ⟨k, rfl⟩ : ∃ q, k = q + 1 := ⟨k - 1, by omega⟩
    rw [bulletinref15_Parse.l2, if_neg (by rw [List.length_map]; omega), List.take_of_length_le (by omega), List.drop_of_length_le (by omega)]
    simp
  | succ n ih =>
    intro m i k h hk hm hf
    obtain ⟨k, rfl⟩ : ∃ q, k = q + 1 := ⟨k - 1, by omega⟩
    have hi : i < m.length := by omega
    have hg : m.getD i ([], []) ∈ m := by rw [List.getD_eq_getElem?_getD, List.getElem?_eq_getElem hi]; exact List.getElem_mem hi
    have hfg := hf _ hg
    have ht := reftrim_is (m.getD i ([], [])).2 (by omega) k (by omega)
    have hn := ih (m.set i (trimF (m.getD i ([], [])))) (i + 1) k (by rw [List.length_set]; omega) (by omega) (by rw [List.length_set]; exact hm) (by
      intro f hfm
      rcases List.mem_or_eq_of_mem_set hfm with h1 | h1
      · exact hf f h1
      · subst h1
        exact Nat.le_trans (trim_len _) hfg)
    rw [bulletinref15_Parse.l2, if_pos (by rw [List.length_map]; omega), if_pos (by omega), rd_toR]
    show (bulletinref15_Trim.f k (str (m.getD i ([], [])).2)).bind _ = _
    rw [ht, Option.bind_some, Int.toNat_natCast, wrap_succ i (by omega)]
    have e : (m.map toR).set i (⟨(toR (m.getD i ([], []))).f0, str (trim (m.getD i ([], [])).2)⟩ : S59) = (m.set i (trimF (m.getD i ([], [])))).map toR := by
      rw [List.map_set]; rfl
    rw [e, hn, trim_step m i hi]
theorem rparse_end (T : Nat) (hT : T ≤ 100000000) (b : ByteArray) (l : List Fld) (k : Nat) (hk : 3 * T + 4 < k) (hl : l.length ≤ T) (hf : ∀ f ∈ l, f.2.length ≤ T) : bulletinref15_Parse.l2 k (l.map toR) b 0 = some ((l.map trimF).map toR, b, 0) := by
  have := rtrims_rounds T (by omega) b l.length l 0 k (by omega) (by omega) (by omega) hf
  simpa using this
theorem colon_rounds (s : ByteArray) (x5 : List (S59)) (x6 : ByteArray) (x7 : Int) (t : ByteArray) (ht : t.size ≤ 1000000000) (B : Nat) (V : Option ((List (S59)) × ByteArray × Int)) :
    ∀ (l : Bytes) (i k : Nat), (bs t).drop i = l → i ≤ t.size → (∀ k', B ≤ k' → bulletinref15_Parse.j2 k' s x5 x6 x7 t ((i + upto 58 l : Nat) : Int) = V) → B + l.length < k → bulletinref15_Parse.l1 k s x5 x6 x7 t (i : Int) = V := by
  intro l
  induction l with
  | nil =>
    intro i k h hi hV hk
    obtain ⟨k, rfl⟩ : ∃ m, k = m + 1 := ⟨k - 1, by omega⟩
    have := drop_nil h
    rw [bs_length] at this
    rw [bulletinref15_Parse.l1, if_neg (by omega)]
    exact hV k (by simp at hk; omega)
  | cons c r ih =>
    intro i k h hi hV hk
    obtain ⟨k, rfl⟩ : ∃ m, k = m + 1 := ⟨k - 1, by omega⟩
    obtain ⟨h1, h2, h3, h4⟩ := drop_cons h
    rw [bs_length] at h1
    simp only [List.length_cons] at hk
    rw [bulletinref15_Parse.l1, if_pos (by omega), if_pos (by omega), bt_drop h]
    rw [upto] at hV
    by_cases a : c = 58
    · subst a
      rw [if_pos (by decide)]
      rw [if_pos rfl] at hV
      exact hV k (by omega)
    · rw [if_neg (fun e => a (UInt8.toNat_inj.1 (show c.toNat = 58 by omega))), wrap_succ i (by omega)]
      rw [if_neg a] at hV
      exact ih (i + 1) k h3 (by omega) (fun k' hk' => by rw [show i + 1 + upto 58 r = i + (upto 58 r + 1) by omega]; exact hV k' hk') (by omega)
theorem rgrow (s t : ByteArray) (l : List Fld) (x6 : ByteArray) (x7 : Int) (i B k : Nat) (V : Option ((List (S59)) × ByteArray × Int)) (ht : (bs t).length = i) (hi : 0 < i) (hib : i ≤ 100000000) (hl : l.length ≤ 1000000000)
    (hf : ∀ f ∈ l, f.2.length ≤ 100000000) (hk : B + 2 * i + 10 < k) (hV : (growL l (bs t)).2 = 0 → ∀ k', B ≤ k' → bulletinref15_Parse.l0 k' s ((growL l (bs t)).1.map toR) x6 x7 = V) :
    (if (i : Int) > 998 then (some (([] : List (S59)), (⟨#[]⟩ : ByteArray), (2 : Int))) else ((bulletinref15_textual.f k t).bind fun t559 => (if t559 = true then (if 0 < (t.size : Int) then ((bulletinref15_blank.f (bt t 0)).bind fun t560 => (if t560 = true then (if ((l.map toR).length : Int) = 0 then (some (([] : List (S59)), (⟨#[]⟩ : ByteArray), (150 : Int))) else (if 0 ≤ (wrap64 (((l.map toR).length : Int) - 1)) then (if (wrap64 (((l.map toR).length : Int) - 1)) < ((l.map toR).length : Int) then (if ((rd_T59 (l.map toR) (wrap64 (((l.map toR).length : Int) - 1))).f1).size + t.size ≤ 9223372036854775807 then (bulletinref15_Parse.l0 k s ((l.map toR).set ((wrap64 (((l.map toR).length : Int) - 1)) : Int).toNat (⟨(rd_T59 (l.map toR) (wrap64 (((l.map toR).length : Int) - 1))).f0, ((rd_T59 (l.map toR) (wrap64 (((l.map toR).length : Int) - 1))).f1) ++ t⟩ : S59)) x6 x7) else (none)) else (none)) else (none))) else (bulletinref15_Parse.l1 k s (l.map toR) x6 x7 t 0))) else (none)) else (some (([] : List (S59)), (⟨#[]⟩ : ByteArray), (150 : Int))))))
    = if (growL l (bs t)).2 = 0 then V else some ([], ⟨#[]⟩, (growL l (bs t)).2) := by
  have hz := bs_length t
  by_cases h1 : 998 < (bs t).length
  · have hg : growL l (bs t) = ([], 2) := by unfold growL; rw [if_pos h1]
    rw [if_pos (by omega), hg, if_neg (by decide)]
  rw [if_neg (by omega), reftextual_is t (by omega) k (by omega), Option.bind_some]
  cases hx : textual (bs t) with
  | false =>
    have hg : growL l (bs t) = ([], 150) := by unfold growL; rw [if_neg h1, if_pos hx]
    rw [if_neg (by decide), hg, if_neg (by decide)]
  | true =>
    have hx' : ¬ textual (bs t) = false := by rw [hx]; decide
    have hbt : bt t 0 = (((bs t).headD 0).toNat : Int) := by
      cases e : bs t with
      | nil => rw [e, List.length_nil] at ht; omega
      | cons c r => rw [List.headD_cons]; exact bt_drop (i := 0) (by rw [List.drop_zero]; exact e)
    rw [if_pos rfl, if_pos (by omega), hbt, refblank_is, Option.bind_some]
    cases hw : wb ((bs t).headD 0) with
    | true =>
      rw [if_pos rfl, List.length_map]
      by_cases h3 : l = []
      · have hg : growL l (bs t) = ([], 150) := by unfold growL; rw [if_neg h1, if_neg hx', if_pos hw, if_pos h3]
        rw [if_pos (by rw [h3]; rfl), hg, if_neg (by decide)]
      · have hg : growL l (bs t) = (addLast l (bs t), 0) := by unfold growL; rw [if_neg h1, if_neg hx', if_pos hw, if_neg h3]
        rw [hg] at hV ⊢
        have hl0 : 0 < l.length := by
          cases l with
          | nil => exact absurd rfl h3
          | cons a l => simp
        have hlast : (toR (l.getD (l.length - 1) ([], []))).f1.size ≤ 100000000 := by
          show (str _).size ≤ _
          rw [str_size]; exact hf _ (getD_last_mem h3)
        rw [if_neg (show ¬ (l.length : Int) = 0 by omega), last_idx _ hl hl0, if_pos (by omega), if_pos (by omega), rd_toR, if_pos (by omega), Int.toNat_natCast]
        have e : (⟨(toR (l.getD (l.length - 1) ([], []))).f0, (toR (l.getD (l.length - 1) ([], []))).f1 ++ t⟩ : S59) = toR ((l.getD (l.length - 1) ([], [])).1, (l.getD (l.length - 1) ([], [])).2 ++ bs t) := by
          show (⟨_, str _ ++ t⟩ : S59) = ⟨_, str (_ ++ bs t)⟩
          rw [← str_app, str_bs]
          rfl
        rw [e, ← List.map_set, if_pos rfl]
        exact hV rfl k (by omega)
    | false =>
      have hw' : ¬ wb ((bs t).headD 0) = true := by rw [hw]; decide
      rw [if_neg (by decide)]
      have hu := upto_le 58 (bs t)
      refine colon_rounds s _ _ _ t (by omega) (B + i + 5) _ (bs t) 0 k (by simp) (by omega) (fun k' hk' => ?_) (by omega)
      rw [Nat.zero_add]
      obtain ⟨k', rfl⟩ : ∃ q, k' = q + 2 := ⟨k' - 2, by omega⟩
      by_cases hcl : upto 58 (bs t) = (bs t).length
      · have hg : growL l (bs t) = ([], 150) := by unfold growL; rw [if_neg h1, if_neg hx', if_neg hw', if_pos hcl]
        rw [bulletinref15_Parse.j2, if_pos (by omega), bulletinref15_Parse.j3, if_pos rfl, hg, if_neg (by decide)]
      · have hx3 : t.extract 0 (upto 58 (bs t)) = str ((bs t).take (upto 58 (bs t))) := by rw [← str_bs (t.extract _ _), bs_extract, List.drop_zero]
        have hx4 : t.extract (upto 58 (bs t) + 1) t.size = str ((bs t).drop (upto 58 (bs t) + 1)) := by rw [← str_bs (t.extract _ _), bs_extract, List.take_of_length_le (by omega)]
        rw [bulletinref15_Parse.j2, if_neg (by omega), if_pos (by omega), if_pos (by omega), Int.toNat_natCast, hx3, refnamed_is _ (by rw [str_size, List.length_take]; omega) (k' + 1) (by rw [str_size, List.length_take]; omega), bs_str, Option.bind_some, bulletinref15_Parse.j3]
        cases hm : named ((bs t).take (upto 58 (bs t))) with
        | false =>
          have hg : growL l (bs t) = ([], 150) := by unfold growL; rw [if_neg h1, if_neg hx', if_neg hw', if_neg hcl, if_pos hm]
          rw [if_pos (by decide), hg, if_neg (by decide)]
        | true =>
          have hm' : ¬ named ((bs t).take (upto 58 (bs t))) = false := by rw [hm]; decide
          rw [if_neg (by decide), List.length_map]
          by_cases h100 : l.length = 100
          · have hg : growL l (bs t) = ([], 8) := by unfold growL; rw [if_neg h1, if_neg hx', if_neg hw', if_neg hcl, if_neg hm', if_pos h100]
            rw [if_pos (by omega), hg, if_neg (by decide)]
          · have hg : growL l (bs t) = (l ++ [((bs t).take (upto 58 (bs t)), (bs t).drop (upto 58 (bs t) + 1))], 0) := by unfold growL; rw [if_neg h1, if_neg hx', if_neg hw', if_neg hcl, if_neg hm', if_neg h100]
            rw [hg] at hV ⊢
            rw [if_neg (by omega), if_pos (by omega), if_pos (by omega), wrap_succ _ (by omega), if_pos (by omega), if_pos (by omega), if_pos (by omega), Int.toNat_natCast, Int.toNat_natCast, hx3, hx4, if_pos rfl]
            have e : l.map toR ++ [(⟨str ((bs t).take (upto 58 (bs t))), str ((bs t).drop (upto 58 (bs t) + 1))⟩ : S59)] = (l ++ [((bs t).take (upto 58 (bs t)), (bs t).drop (upto 58 (bs t) + 1))]).map toR := by rw [List.map_append]; rfl
            rw [e]
            exact hV rfl k' (by omega)
end Go.Proofs.YtlomcmdbbnbciaaDoor.Pl
set_option linter.unusedVariables false
set_option linter.unusedSimpArgs false
namespace Go.Proofs.YtlomcmdbbnbciaaDoor.Pl
open Go.RowKit Go.Proofs.YtlomcmdbbnbciaaDoorW.PrintWords Go.Proofs.YtlomcmdbbnbciaaDoor.Fn

/-! The document's Parse: line by line. -/
theorem wrap_nat (a b : Nat) (h : a + b ≤ 1000000000) : wrap64 ((a : Int) + (b : Int)) = ((a + b : Nat) : Int) := by
  rw [wrap_id (by omega) (by omega)]
  omega
theorem wrap_two (a : Nat) (h : a ≤ 1000000000) : wrap64 ((a : Int) + 2) = ((a + 2 : Nat) : Int) := by
  rw [wrap_id (by omega) (by omega)]
  omega
theorem rparse_rounds (s : ByteArray) (T : Nat) (hT : T ≤ 100000000) (hs : s.size ≤ T) : ∀ (n : Nat) (pos : Nat) (l : List Fld) (k : Nat), s.size - pos < n → pos ≤ s.size → fits T l (s.size - pos) → 10 * (s.size - pos) + 3 * T + 50 < k →
    bulletinref15_Parse.l0 k s (l.map toR) (str []) (pos : Int) = some ((parseM n ((bs s).drop pos) l).1.map toR, str (parseM n ((bs s).drop pos) l).2.1, (parseM n ((bs s).drop pos) l).2.2) := by
  have hb := bs_length s
  intro n
  induction n using Nat.strongRecOn with
  | ind n ih =>
    intro pos l k hn hp hf hk
    obtain ⟨k, rfl⟩ : ∃ q, k = q + 1 := ⟨k - 1, by omega⟩
    obtain ⟨n, rfl⟩ : ∃ q, n = q + 1 := ⟨n - 1, by omega⟩
    have hlen := hf.1
    have hfm : ∀ f ∈ l, f.2.length ≤ T := fun f h => by have := hf.2 f h; omega
    have hdl : ((bs s).drop pos).length = s.size - pos := by rw [List.length_drop, hb]
    rw [parseM]
    by_cases h0 : pos < s.size
    · have hne : (bs s).drop pos ≠ [] := by
        intro e
        rw [e, List.length_nil] at hdl
        omega
      have hx1 : bs (s.extract pos s.size) = (bs s).drop pos := by rw [bs_extract, List.take_of_length_le (by omega)]
      have hx2 : (s.extract pos s.size).size = s.size - pos := by rw [← bs_length, hx1, hdl]
      have hline := refline_is (s.extract pos s.size) (by omega) k (by omega)
      rw [hx1] at hline
      rw [if_neg hne]
      cases hc : crlf ((bs s).drop pos) with
      | none =>
        rw [hc] at hline
        rw [bulletinref15_Parse.l0, if_pos (by omega), if_pos (by omega), if_pos (by omega), Int.toNat_natCast, hline, Option.bind_some, if_pos (by decide)]
        rfl
      | some i =>
        have hr := crlf_room hc
        rw [hdl] at hr
        rw [hc] at hline
        simp only [] at hline ⊢
        have hpi : pos + i + 2 ≤ 1000000000 := by omega
        by_cases hi : i = 0
        · subst hi
          have hb2 : s.extract (pos + 0 + 2) s.size = str (((bs s).drop pos).drop 2) := by
            rw [← str_bs (s.extract _ _), bs_extract, List.take_of_length_le (by omega), List.drop_drop]
          obtain ⟨k, rfl⟩ : ∃ q, k = q + 1 := ⟨k - 1, by omega⟩
          have hE : bulletinref15_Parse.l0 (k + 1) s (l.map toR) (s.extract (pos + 0 + 2) s.size) (s.size : Int) = some ((l.map trimF).map toR, str (((bs s).drop pos).drop 2), 0) := by
            rw [bulletinref15_Parse.l0, if_neg (by omega), hb2, rparse_end T hT _ l k (by omega) (by omega) hfm]
          rw [bulletinref15_Parse.l0, if_pos (by omega), if_pos (by omega), if_pos (by omega), Int.toNat_natCast, hline, Option.bind_some, wrap_nat pos 0 (by omega), wrap_two (pos + 0) (by omega), if_neg (by omega), if_pos (by omega), if_pos (by omega), if_pos (by rfl), if_pos (by omega), if_pos (by omega), Int.toNat_natCast, hE, if_pos rfl]
        · have ht1 : bs (s.extract pos (pos + i)) = ((bs s).drop pos).take i := by
            rw [bs_extract, List.drop_take, Nat.add_sub_cancel_left]
          have ht2 : (bs (s.extract pos (pos + i))).length = i := by rw [ht1, List.length_take, hdl]; omega
          have hd2 : ((bs s).drop pos).drop (i + 2) = (bs s).drop (pos + i + 2) := by rw [List.drop_drop]; congr 1
          have hgf : fits T l ((bs (s.extract pos (pos + i))).length + 2 + (s.size - (pos + i + 2))) := by
            rw [ht2, show i + 2 + (s.size - (pos + i + 2)) = s.size - pos by omega]; exact hf
          have hG := rgrow s (s.extract pos (pos + i)) l (str []) ((pos + i + 2 : Nat) : Int) i (10 * (s.size - (pos + i + 2)) + 3 * T + 51) k (some ((parseM n ((bs s).drop (pos + i + 2)) (growL l (bs (s.extract pos (pos + i)))).1).1.map toR, str (parseM n ((bs s).drop (pos + i + 2)) (growL l (bs (s.extract pos (pos + i)))).1).2.1, (parseM n ((bs s).drop (pos + i + 2)) (growL l (bs (s.extract pos (pos + i)))).1).2.2)) ht2 (by omega) (by omega) (by omega) (fun f h => Nat.le_trans (hfm f h) hT) ?hk
            (fun h0 k' hk' => ih n (by omega) (pos + i + 2) _ k' (by omega) (by omega) (grow_fits hgf h0) (by omega))
          case hk => omega
          rw [bulletinref15_Parse.l0, if_pos (by omega), if_pos (by omega), if_pos (by omega), Int.toNat_natCast, hline, Option.bind_some, wrap_nat pos i (by omega), wrap_two (pos + i) (by omega), if_neg (by omega), if_pos (by omega), if_pos (by omega), if_neg (by omega), if_neg hi, Int.toNat_natCast]
          refine hG.trans ?_
          rw [ht1, hd2]
          by_cases hg : (growL l (((bs s).drop pos).take i)).2 = 0
          · rw [if_pos hg, if_pos hg]
          · rw [if_neg hg, if_neg hg]
            rfl
    · have he : (bs s).drop pos = [] := List.drop_of_length_le (by omega)
      rw [bulletinref15_Parse.l0, if_neg (by omega), he, if_pos rfl, rparse_end T hT _ l k (by omega) (by omega) hfm]
theorem refparse_is (s : ByteArray) (hs : s.size ≤ 100000000) (k : Nat) (hk : 13 * s.size + 100 < k) :
    bulletinref15_Parse.f k s = some ((parseH (bs s)).1.map toR, str (parseH (bs s)).2.1, (parseH (bs s)).2.2) := by
  have hb := bs_length s
  unfold bulletinref15_Parse.f parseH
  have := rparse_rounds s s.size hs (Nat.le_refl _) ((bs s).length + 1) 0 [] k (by omega) (by omega) ⟨by simp, by simp⟩ (by omega)
  rw [List.drop_zero] at this
  exact this
end Go.Proofs.YtlomcmdbbnbciaaDoor.Pl
-- written by xprint.py of this session over the kit's printer; not trusted: Lean checks it
namespace Go.Proofs.YtlomcmdbbnbciaaDoor.Fn
open Go.RowKit Go.Proofs.YtlomcmdbbnbciaaDoorW.PrintWords Go.Proofs.YtlomcmdbbnbciaaDoorW.PrintLast Go.Proofs.YtlomcmdbbnbciaaDoorW.PrintMore
attribute [local go_sem] max2_int min2_int max_two min_two max_three min_three max_four min_four   -- for this text's walks alone
set_option linter.unusedVariables false
set_option linter.unusedSimpArgs false

/-! ### bulletinlaw15_HeadReads: function 9 -/
end Go.Proofs.YtlomcmdbbnbciaaDoor.Fn
set_option linter.unusedVariables false
set_option linter.unusedSimpArgs false
namespace Go.Proofs.YtlomcmdbbnbciaaDoor.Pl
open Go.RowKit Go.Proofs.YtlomcmdbbnbciaaDoorW.PrintWords Go.Proofs.YtlomcmdbbnbciaaDoor.Fn

theorem up_of {α : Type} {f : Nat → Option α} (h : ∀ k, LeO (f k) (f (k + 1))) {r : α} {k : Nat} (hr : f k = some r) (k' : Nat) (hk : k ≤ k') : f k' = some r := by
  obtain ⟨d, rfl⟩ : ∃ d, k' = k + d := ⟨k' - k, by omega⟩
  clear hk
  induction d with
  | zero => exact hr
  | succ d ih => exact h (k + d) r ih
set_option maxRecDepth 100000 in
theorem works15_at : bulletinlaw15_works.f 100 = some true := by decide +kernel
theorem works15 (k : Nat) (hk : 100 ≤ k) : bulletinlaw15_works.f k = some true := up_of bulletinlaw15_works.mono works15_at k hk
theorem same_rounds (l : List Fld) (hl : l.length ≤ 1000000000) : ∀ (n i k : Nat), l.length = i + n → n < k → bulletinlaw15_Same.l0 k (l.map toP) (l.map toR) true (i : Int) = some true := by
  intro n
  induction n with
  | zero =>
    intro i k h hk
    obtain ⟨k, rfl⟩ : ∃ q, k = q + 1 := ⟨k - 1, by omega⟩
    rw [bulletinlaw15_Same.l0, if_pos rfl, List.length_map, if_neg (by omega)]
  | succ n ih =>
    intro i k h hk
    obtain ⟨k, rfl⟩ : ∃ q, k = q + 1 := ⟨k - 1, by omega⟩
    have hn := ih (i + 1) k (by omega) (by omega)
    rw [bulletinlaw15_Same.l0, if_pos rfl, List.length_map, List.length_map, if_pos (by omega), if_pos (by omega), if_pos (by omega), rd_toP, rd_toR]
    have e1 : (toP (l.getD i ([], []))).f0.toList = (toR (l.getD i ([], []))).f0.toList := rfl
    have e2 : ((toP (l.getD i ([], []))).f1.toList == (toR (l.getD i ([], []))).f1.toList) = true := beq_iff_eq.mpr rfl
    rw [if_pos e1, e2, wrap_succ i (by omega), hn]
theorem same_is (l : List Fld) (hl : l.length ≤ 1000000000) (k : Nat) (hk : l.length < k) : bulletinlaw15_Same.f k (l.map toP) (l.map toR) = some true := by
  unfold bulletinlaw15_Same.f
  rw [List.length_map, List.length_map, show ((l.length : Int) == (l.length : Int)) = true from beq_iff_eq.mpr rfl]
  exact same_rounds l hl l.length 0 k (by omega) hk
theorem parseM_len : ∀ (n : Nat) (s : Bytes) (l : List Fld), l.length ≤ 100 → (parseM n s l).1.length ≤ 100
  | 0, _, _, _ => by simp [parseM, bad]
  | n + 1, s, l, h => by
    rw [parseM]
    split
    · simpa using h
    · split
      · simp [bad]
      · split
        · simpa using h
        · split
          · rename_i h0
            refine parseM_len n _ _ ?_
            unfold growL at h0 ⊢
            repeat' split
            all_goals (try (simp; done))
            · unfold addLast; rw [List.length_set]; exact h
            · rename_i h100; rw [List.length_append]; simp only [List.length_cons, List.length_nil]; omega
          · simp [bad]
theorem parseH_len (s : Bytes) : (parseH s).1.length ≤ 100 := parseM_len _ s [] (by simp)
end Go.Proofs.YtlomcmdbbnbciaaDoor.Pl
set_option linter.unusedVariables false
set_option linter.unusedSimpArgs false
namespace Go.Proofs.YtlomcmdbbnbciaaDoor.Pl
open Go.RowKit Go.Proofs.YtlomcmdbbnbciaaDoorW.PrintWords Go.Proofs.YtlomcmdbbnbciaaDoor.Fn

theorem nums_size (l : List Int) : (strOfNums l).size = l.length := by
  unfold strOfNums
  show (List.toArray _).size = _
  simp
theorem many_rounds : ∀ (n : Nat) (x1 i : Nat) (x9 : ByteArray) (k : Nat), x1 = i + n → x1 ≤ 1000 → x9.size + 5 * n ≤ 100000 → 2000000 + n < k → bulletinlaw15_HeadLong.l1 k (x1 : Int) x9 (i : Int) = some true := by
  intro n
  induction n with
  | zero =>
    intro x1 i x9 k h hx hs hk
    obtain ⟨k, rfl⟩ : ∃ q, k = q + 1 := ⟨k - 1, by omega⟩
    have hl := parseH_len (bs x9)
    rw [bulletinlaw15_HeadLong.l1, if_neg (by omega), headparse_is x9 (by omega) k (by omega), Option.bind_some, refparse_is x9 (by omega) k (by omega), Option.bind_some]
    simp only []
    rw [same_is _ (by omega) k (by omega), Option.bind_some, if_pos rfl, if_pos trivial, if_pos trivial, works15 k (by omega)]
    rfl
  | succ n ih =>
    intro x1 i x9 k h hx hs hk
    obtain ⟨k, rfl⟩ : ∃ q, k = q + 1 := ⟨k - 1, by omega⟩
    have hz : (x9 ++ (⟨#[97, 58, 98, 13, 10]⟩ : ByteArray)).size = x9.size + 5 := by rw [ByteArray.size_append]; rfl
    have hn := ih x1 (i + 1) (x9 ++ (⟨#[97, 58, 98, 13, 10]⟩ : ByteArray)) k (by omega) hx (by rw [hz]; omega) (by omega)
    rw [bulletinlaw15_HeadLong.l1, if_pos (by omega), if_pos (by omega), wrap_succ i (by omega), hn]
theorem long_rounds (x1 : Nat) (x2 : Bool) (h1 : x1 ≤ 120) : ∀ (n : Nat) (x7 : List Int) (i k : Nat), x7.length = i + n → 2 ≤ x7.length → x7.length ≤ 1100 → 3000000 + n < k →
    bulletinlaw15_HeadLong.l0 k (x1 : Int) x2 x7 (x7.length : Int) (i : Int) = some true := by
  intro n
  induction n with
  | zero =>
    intro x7 i k h h2 h3 hk
    obtain ⟨k, rfl⟩ : ∃ q, k = q + 2 := ⟨k - 2, by omega⟩
    have hz1 : (strOfNums (x7.set (1 : Int).toNat 58)).size = x7.length := by rw [nums_size, List.length_set]
    have hz2 : ((strOfNums (x7.set (1 : Int).toNat 58)) ++ (⟨#[13, 10]⟩ : ByteArray)).size = x7.length + 2 := by rw [ByteArray.size_append, hz1]; rfl
    have hz3 : (((strOfNums (x7.set (1 : Int).toNat 58)) ++ (⟨#[13, 10]⟩ : ByteArray)) ++ (⟨#[32, 121, 13, 10]⟩ : ByteArray)).size = x7.length + 6 := by rw [ByteArray.size_append, hz2]; rfl
    rw [bulletinlaw15_HeadLong.l0, if_neg (by omega), if_pos (by omega), Option.bind_some, if_pos (by omega)]
    cases x2 with
    | true =>
      rw [if_pos rfl, if_pos (by omega), bulletinlaw15_HeadLong.j2]
      exact many_rounds x1 x1 0 _ k (by omega) (by omega) (by omega) (by omega)
    | false =>
      rw [if_neg (by decide), bulletinlaw15_HeadLong.j2]
      exact many_rounds x1 x1 0 _ k (by omega) (by omega) (by omega) (by omega)
  | succ n ih =>
    intro x7 i k h h2 h3 hk
    obtain ⟨k, rfl⟩ : ∃ q, k = q + 1 := ⟨k - 1, by omega⟩
    have hn := ih (x7.set i 120) (i + 1) k (by rw [List.length_set]; omega) (by rw [List.length_set]; omega) (by rw [List.length_set]; omega) (by omega)
    rw [List.length_set] at hn
    rw [bulletinlaw15_HeadLong.l0, if_pos (by omega), if_pos (by omega), if_pos (by omega), Int.toNat_natCast, wrap_succ i (by omega), hn]
theorem HeadLong (a0 a1 : Int) (a2 : Bool) : ∃ k, bulletinlaw15_HeadLong.f k a0 a1 a2 = some true := by
  refine ⟨4000000, ?_⟩
  generalize hk : (4000000 : Nat) = k
  obtain ⟨k, rfl⟩ : ∃ q, k = q + 1 := ⟨k - 1, by omega⟩
  have hw := works15 k (by omega)
  have hj : bulletinlaw15_HeadLong.j0 (k + 1) a0 a1 a2 true = some true := by
    rw [bulletinlaw15_HeadLong.j0, if_pos rfl, hw]; rfl
  unfold bulletinlaw15_HeadLong.f
  by_cases h1 : a0 < 2
  · rw [if_pos h1, hj]
  rw [if_neg h1]
  by_cases h2 : a0 > 1100
  · rw [if_pos h2, hj]
  rw [if_neg h2]
  by_cases h3 : a1 < 0
  · rw [if_pos h3, hj]
  rw [if_neg h3]
  by_cases h4 : a1 > 120
  · rw [decide_eq_true h4, hj]
  rw [decide_eq_false h4, bulletinlaw15_HeadLong.j0, if_neg (by decide), if_pos (by omega), if_pos (by omega), Option.bind_some]
  obtain ⟨n, rfl⟩ : ∃ n : Nat, a1 = (n : Int) := ⟨a1.toNat, by omega⟩
  have hl : (List.replicate a0.toNat (0 : Int)).length = a0.toNat := List.length_replicate
  exact long_rounds n a2 (by omega) a0.toNat (List.replicate a0.toNat 0) 0 k (by omega) (by omega) (by omega) (by omega)
end Go.Proofs.YtlomcmdbbnbciaaDoor.Pl
-- the row of the law HeadLong, out of its pure statement and its walk
namespace Go.Proofs.YtlomcmdbbnbciaaDoor.headLong
open Go.ChangeShapes Go.WideShapes Go.ChangeAt Go.RowKit Go.Joins
open Go.ChangeMaps (open_string shut_string)
set_option maxRecDepth 100000 in
theorem lifted (os : Os) (started : os.Started) (H : Type) (enc : TypeId × Value → H) :
    ReturnsInHanded {} Tryd.checked os 10 .any (fun w args => (Rows.headLongSpec.pre enc Tryd.prog Tryd.f10 [] false w args ∧ laidMetH Tryd.prog listed w) ∧ sizedMet enc Tryd.prog Tryd.f10 (OpenSpec.ofChange Rows.headLongSpec) false w args) (Rows.headLongSpec.post enc Tryd.prog Tryd.f10 false true false false) := by
  refine lift_both (C := Tryd.checked) (X := fun w _ => laidMetH Tryd.prog listed w) (fun _ _ _ hh h => h.of_heap hh) own started (by kernel_rfl) Tryd.func10
    (ChangeSpec.witness_at (enc := enc) (C := Tryd.checked) (os := os) (X := fun w _ => laidMetH Tryd.prog listed w) false (laidWorld os) #[.int .i64 0, .int .i64 0, .bool false] 8 rfl (by kernel_rfl) (by kernel_rfl) (by kernel_rfl) (by kernel_rfl) (by kernel_rfl) (laid_met os _)) ?_
  intro W base args ds gs before hval0 hW _ hL hSh
  have hG : Fn.Glob W := Fn.glob_of hL hSh
  have hval : ∀ (j : Nat) t v, Tryd.f10.params[j]? = some t → args[j]? = some v → Value.okWide Tryd.prog W .any base t v := hval0
  have hW' := hW
  obtain ⟨p, q, hA0, hV, rfl, _, _⟩ := hW
  have hA : DataW.TrodAll enc Tryd.prog W 0 (fun _ => true) true Tryd.f10.params.toList args.toList ds p := hA0
  rw [Tryd.params10] at hA hval
  obtain ⟨v0, vs0, d0, ds0, p0, q0, hargs, rfl, rfl, h0, r0⟩ := trodAll_cons hA
  obtain ⟨v1, vs1, d1, ds1, p1, q1, rfl, rfl, rfl, h1, r1⟩ := trodAll_cons r0
  obtain ⟨v2, vs2, d2, ds2, p2, q2, rfl, rfl, rfl, h2, r2⟩ := trodAll_cons r1
  obtain ⟨rfl, rfl, rfl⟩ := trodAll_nil r2
  obtain rfl : args = #[v0, v1, v2] := by cases args; simp_all
  obtain ⟨rfl, rfl⟩ := trodVars_none hV
  have k0 := h0
  have lt0 : ∀ x ∈ p0, x.block < W.heap.size := by obtain ⟨m, hm⟩ := k0; exact DataW.trod_lt m _ _ _ hm
  obtain ⟨a0, rfl, _, _, _⟩ := open_int Tryd.underlying3 (hval 0 3 v0 rfl rfl) h0
  have k1 := h1
  have lt1 : ∀ x ∈ p1, x.block < W.heap.size := by obtain ⟨m, hm⟩ := k1; exact DataW.trod_lt m _ _ _ hm
  obtain ⟨a1, rfl, _, _, _⟩ := open_int Tryd.underlying3 (hval 1 3 v1 rfl rfl) h1
  have k2 := h2
  have lt2 : ∀ x ∈ p2, x.block < W.heap.size := by obtain ⟨m, hm⟩ := k2; exact DataW.trod_lt m _ _ _ hm
  obtain ⟨a2, rfl, _, _⟩ := open_bool Tryd.underlying4 (hval 2 4 v2 rfl rfl) h2
  obtain ⟨k, hk⟩ := Pl.HeadLong a0 a1 a2
  refine (Fn.bulletinlaw15_HeadLong.calls k a0 a1 a2 true W hG hk).mono ?_
  rintro e W' ⟨rfl, bel⟩
  exact ⟨_, rfl, _, _, _, [], _, [], hW', trodAll_mk1 (shut_bool Tryd.underlying4 _), (trodAll_cons_mk (Below.trod laidOut (by kernel_rfl) (of_decide_eq_true (by kernel_rfl)) k0 bel lt0) (trodAll_cons_mk (Below.trod laidOut (by kernel_rfl) (of_decide_eq_true (by kernel_rfl)) k1 bel lt1) (trodAll_cons_mk (Below.trod laidOut (by kernel_rfl) (of_decide_eq_true (by kernel_rfl)) k2 bel lt2) trodAll_mk0))), rfl, bel.frame _, fun h => by cases h⟩
theorem over : Rows.headLongRow.holds Tryd.pinned (OpenSpec.ofChange Rows.headLongSpec) :=
  OpenClaim.holds_of_wide 10 Tryd.f10 rfl rfl rfl rfl rfl rfl rfl ⟨rfl, rfl, rfl, rfl, rfl⟩ rfl rfl rfl rfl rfl (by kernel_rfl) Tryd.func10 (by kernel_rfl)
    (of_decide_eq_true (by kernel_rfl)) (by unfold Func.isWrapper; first | (rw [if_pos (by decide +kernel)]; kernel_rfl) | (rw [if_neg (by decide +kernel)]; exact ⟨rfl, rfl⟩))
    (fun os started H enc _ => lifted os started H enc)
theorem proved : Rows.HeadLongSaid := over
#print axioms proved
theorem card : Rows.HeadLongCardSaid :=
  Claim7.holds_tied_plain_at .later [] [.data, .pinned] true (true, "a3f6bcdc9cb347ffdc7221f102fbc562a39496553b45ea8bedd4c5b8b6bf59b8") false
    proved (fun _ h => by cases h) (by kernel_rfl) (fun _ h => by cases h) headLong_row_tie rfl ⟨rfl, rfl⟩ (by kernel_rfl) rfl
    (fun f fn hf hfn => by
      obtain rfl : f = 10 := Option.some.inj ((show Tryd.prog.funcNamed "bulletin/bulletinlaw15.HeadLong" = some 10 by kernel_rfl).symm.trans hf) |>.symm
      obtain rfl : fn = Tryd.f10 := (Option.some.inj (Tryd.func10.symm.trans hfn)).symm
      exact ⟨by kernel_rfl, fun j t ht => by
        rw [Tryd.params10] at ht
        have hall : ([3, 3, 4] : List TypeId).all (fun t => !(Tryd.prog.wantsStandIn t)) = true := by kernel_rfl
        have hm : t ∈ ([3, 3, 4] : List TypeId) := by simpa using Array.mem_of_getElem? ht
        have h2 : Tryd.prog.wantsStandIn t = false := by simpa using List.all_eq_true.1 hall t hm
        exact h2⟩)
    (by kernel_rfl)
#print axioms card
end Go.Proofs.YtlomcmdbbnbciaaDoor.headLong
namespace Go.Proofs.YtlomcmdbbnbciaaDoor
theorem headLong_holds : Rows.HeadLongCardSaid := headLong.card
end Go.Proofs.YtlomcmdbbnbciaaDoor
