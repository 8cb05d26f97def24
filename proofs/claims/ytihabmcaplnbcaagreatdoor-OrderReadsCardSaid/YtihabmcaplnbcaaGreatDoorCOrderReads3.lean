/- A part of the proof of this sentence: OrderReads (35.5): the commands of any mail, as a member may send it, are as the document reads them; of at most 30 fields, names of at most 200, values and body of at most 3000 bytes. -/
import Derived.Test.YtihabmcaplnbcaaGreatDoorCOrderReads2
import Derived.Test.YtihabmcaplnbcaaGreatDoorRows
import Derived.HandedShaped
import Derived.LaidLaws
import Derived.LaidHandle
import Derived.Deep.DeepLaidRun
import Derived.Stop.Joined
import Derived.PinnedBridge
import Derived.Lib.LaidU8
import Derived.ProofKit
import Derived.RangeFuncSeq
import Derived.Test.YtihabmcaplnbcaaGreatDoorCOrderReadsWMore
import Derived.Laws.BitsLemmas
import Derived.Lib.DecodeN
import Derived.Lib.RuneBytes
import Derived.Lib.RuneCountTail
import Derived.Lib.SlTrimSet
import Derived.Lib.IndexMore
import Derived.Deep.RegionWith
import Derived.Laws.BytesArg
import Derived.Shelf.Strings.SlTrimAscii
import Derived.Lib.Split
namespace Go.Proofs.YtihabmcaplnbcaaGreatDoor.Fn
open Go.RowKit Go.Proofs.YtihabmcaplnbcaaGreatDoorW.PrintWords Go.Proofs.YtihabmcaplnbcaaGreatDoorW.PrintLast Go.Proofs.YtihabmcaplnbcaaGreatDoorW.PrintMore
attribute [local go_sem] max2_int min2_int max_two min_two max_three min_three max_four min_four
set_option linter.unusedVariables false
set_option linter.unusedSimpArgs false

mutual
def bulletinref06_Words.l0 : Nat → ByteArray → List ByteArray → ByteArray → Int → Option (List ByteArray)
 | 0, _, _, _, _ => none
 | k + 1, x0, x3, x4, x5 => if x5 ≤ (x0.size : Int) then (if x5 < (x0.size : Int) then (if 0 ≤ x5 then (if (bt x0 x5) = 32 then (bulletinref06_Words.j1 k x0 x3 x4 x5 false) else (if (bt x0 x5) = 9 then (bulletinref06_Words.j1 k x0 x3 x4 x5 false) else (if (bt x0 x5) = 13 then (bulletinref06_Words.j1 k x0 x3 x4 x5 false) else (bulletinref06_Words.j1 k x0 x3 x4 x5 ((bt x0 x5) != 10))))) else (none)) else (bulletinref06_Words.j1 k x0 x3 x4 x5 false)) else (some x3)
def bulletinref06_Words.j1 : Nat → ByteArray → List ByteArray → ByteArray → Int → Bool → Option (List ByteArray)
 | 0, _, _, _, _, _ => none
 | k + 1, x0, x3, x4, x5, x39 => if x39 = true then (if 0 ≤ x5 then (if x5 ≤ (wrap64 (x5 + 1)) then (if (wrap64 (x5 + 1)) ≤ (x0.size : Int) then (if x4.size + (x0.extract (x5 : Int).toNat ((wrap64 (x5 + 1)) : Int).toNat).size ≤ 9223372036854775807 then (bulletinref06_Words.l0 k x0 x3 (x4 ++ (x0.extract (x5 : Int).toNat ((wrap64 (x5 + 1)) : Int).toNat)) (wrap64 (x5 + 1))) else (none)) else (none)) else (none)) else (none)) else (if x4.toList = ([] : List UInt8) then (bulletinref06_Words.l0 k x0 x3 (⟨#[]⟩ : ByteArray) (wrap64 (x5 + 1))) else (if x3.length < 8796093022208 then (bulletinref06_Words.l0 k x0 (x3 ++ [x4]) (⟨#[]⟩ : ByteArray) (wrap64 (x5 + 1))) else (none)))
end
def bulletinref06_Words.f (k : Nat) (a0 : ByteArray) : Option (List ByteArray) := bulletinref06_Words.l0 k a0 ([] : List ByteArray) (⟨#[]⟩ : ByteArray) 0
set_option maxHeartbeats 8000000 in
set_option maxRecDepth 100000 in
theorem bulletinref06_Words.calls (k : Nat) (a0 : ByteArray) (r : List ByteArray) (w : World) (h : bulletinref06_Words.f k a0 = some r) :
  Calls Tryz.prog 98 #[.string a0] w fun e w' => ∃ v0_ : Value, e = .returned (v0_) ∧ Kd.R Kd.string 9 w' w.heap.size (fun _ => True) v0_ r ∧ Below w.heap.size w w' := by
 have HB := Aside0.mk (Below.refl w.heap.size w); have H : (bulletinref06_Words.l0 k a0 ([] : List ByteArray) (⟨#[]⟩ : ByteArray) 0) = some r := h; clear h; have H' := Aside0.mk H; clear H
 go_enter Tryz.func98, Tryz.ntmps98
 go_wp2
 go_loopg [3, 4, 5] k (fun kq v3 v4 v5 w' => ∃ (x3_1 : List ByteArray) (x4_1 : ByteArray) (x5_1 : Int), v4 = .string x4_1 ∧ v5 = .int .i64 x5_1 ∧ Aside0 (bulletinref06_Words.l0 kq a0 x3_1 x4_1 x5_1 = some r) ∧ Aside0 (kq ≤ k) ∧ Aside0 (Kd.R Kd.string 9 w' w.heap.size (fun _ => True) v3 x3_1) ∧ Aside0 (Below w.heap.size w w'))
 case atStart => exact ⟨(([] : List ByteArray)), ((⟨#[]⟩ : ByteArray)), (0), cl, cl, H', ⟨Nat.le_refl _⟩, ⟨by first | exact Kd.R_nil _ _ _ _ _ | exact Kd.N_nil _ _ _ _ _ | exact Kd.V_nil _ _ _ _ _ | exact Kd.Q_nil _ _ _ _ _ | exact Kd.S_nil _ _ _ _ _⟩, ⟨bw⟩⟩
 case round =>
  clear H'; obtain ⟨x3_1, x4_1, x5_1, rfl, rfl, HA, HK1, HO_3, HB⟩ := hrel; cases gk with
  | zero => exact absurd HA.out (by simp [bulletinref06_Words.l0])
  | succ k1 =>
   have H := HA.out; clear HA; simp only [bulletinref06_Words.l0] at H
   by_cases c2 : x5_1 ≤ (a0.size : Int)
   ·rw [if_pos c2] at H; have c2b0 := decide_eq_true c2; clear c2; have HC3 := Aside0.mk H; clear H
    go_upto_region 6 with (fail)
    go_cut [39] (fun v39 wc => ∃ (kq : Nat) (x39_2 : Bool), v39 = .bool x39_2 ∧ Aside0 (bulletinref06_Words.j1 kq a0 x3_1 x4_1 x5_1 x39_2 = some r) ∧ Aside0 (kq ≤ k1) ∧ Aside0 (Kd.R Kd.string 9 wc w.heap.size (fun _ => True) u3 x3_1) ∧ Aside0 (Below w.heap.size w wc))
    case first =>
     have H := HC3.out; clear HC3
     by_cases c4 : x5_1 < (a0.size : Int)
     ·rw [if_pos c4] at H; have c4b0 := decide_eq_true c4; clear c4
      (first | rw [c4b0] | (simp only [i64_w, i32_w]; rw [c4b0]) | skip)
      by_cases c5 : 0 ≤ x5_1
      ·rw [if_pos c5] at H; have c5b0 := decide_eq_true c5; clear c5
       by_cases c7 : (bt a0 x5_1) = 32
       ·rw [if_pos c7] at H; have c7b0 := beq_iff_eq.mpr c7; have c7b1 := bne_eq_false_iff_eq.mpr c7; clear c7; have H' := Aside0.mk H; clear H; have p6 : 0 ≤ (x5_1 : Int) := od; have q6 : x5_1 < (a0.size : Int) := od; have hx6 := bt_at a0 x5_1; replace p6 := eq_true p6; replace q6 := eq_true q6
        go_wp2
        go_meet
        case rel => exact ⟨_, (false), cl, H', ⟨by have := HK1.out; first | omega | exact Nat.le_refl _⟩, ⟨ra HO_3.out⟩, ⟨bw⟩⟩
       rw [if_neg c7] at H; have c7b0 := beq_eq_false_iff_ne.mpr c7; have c7b1 := bne_iff_ne.mpr c7
       by_cases c9 : (bt a0 x5_1) = 9
       ·rw [if_pos c9] at H; have c9b0 := beq_iff_eq.mpr c9; have c9b1 := bne_eq_false_iff_eq.mpr c9; clear c9; have H' := Aside0.mk H; clear H; have p6 : 0 ≤ (x5_1 : Int) := od; have q6 : x5_1 < (a0.size : Int) := od; have hx6 := bt_at a0 x5_1; replace p6 := eq_true p6; replace q6 := eq_true q6; have p8 : 0 ≤ (x5_1 : Int) := od; have q8 : x5_1 < (a0.size : Int) := od; have hx8 := bt_at a0 x5_1; replace p8 := eq_true p8; replace q8 := eq_true q8
        go_wp2
        go_meet
        case rel => exact ⟨_, (false), cl, H', ⟨by have := HK1.out; first | omega | exact Nat.le_refl _⟩, ⟨ra HO_3.out⟩, ⟨bw⟩⟩
       rw [if_neg c9] at H; have c9b0 := beq_eq_false_iff_ne.mpr c9; have c9b1 := bne_iff_ne.mpr c9
       by_cases c11 : (bt a0 x5_1) = 13
       ·rw [if_pos c11] at H; have c11b0 := beq_iff_eq.mpr c11; have c11b1 := bne_eq_false_iff_eq.mpr c11; clear c11; have H' := Aside0.mk H; clear H; have p6 : 0 ≤ (x5_1 : Int) := od; have q6 : x5_1 < (a0.size : Int) := od; have hx6 := bt_at a0 x5_1; replace p6 := eq_true p6; replace q6 := eq_true q6; have p8 : 0 ≤ (x5_1 : Int) := od; have q8 : x5_1 < (a0.size : Int) := od; have hx8 := bt_at a0 x5_1; replace p8 := eq_true p8; replace q8 := eq_true q8; have p10 : 0 ≤ (x5_1 : Int) := od; have q10 : x5_1 < (a0.size : Int) := od; have hx10 := bt_at a0 x5_1; replace p10 := eq_true p10; replace q10 := eq_true q10
        go_wp2
        go_meet
        case rel => exact ⟨_, (false), cl, H', ⟨by have := HK1.out; first | omega | exact Nat.le_refl _⟩, ⟨ra HO_3.out⟩, ⟨bw⟩⟩
       rw [if_neg c11] at H; have c11b0 := beq_eq_false_iff_ne.mpr c11; have c11b1 := bne_iff_ne.mpr c11; have H' := Aside0.mk H; clear H; have p6 : 0 ≤ (x5_1 : Int) := od; have q6 : x5_1 < (a0.size : Int) := od; have hx6 := bt_at a0 x5_1; replace p6 := eq_true p6; replace q6 := eq_true q6; have p8 : 0 ≤ (x5_1 : Int) := od; have q8 : x5_1 < (a0.size : Int) := od; have hx8 := bt_at a0 x5_1; replace p8 := eq_true p8; replace q8 := eq_true q8; have p10 : 0 ≤ (x5_1 : Int) := od; have q10 : x5_1 < (a0.size : Int) := od; have hx10 := bt_at a0 x5_1; replace p10 := eq_true p10; replace q10 := eq_true q10; have p12 : 0 ≤ (x5_1 : Int) := od; have q12 : x5_1 < (a0.size : Int) := od; have hx12 := bt_at a0 x5_1; replace p12 := eq_true p12; replace q12 := eq_true q12
       go_wp2
       go_meet
       case rel => exact ⟨_, (((bt a0 x5_1) != 10)), cl, H', ⟨by have := HK1.out; first | omega | exact Nat.le_refl _⟩, ⟨ra HO_3.out⟩, ⟨bw⟩⟩
      rw [if_neg c5] at H; exact absurd H (by simp)
     rw [if_neg c4] at H; have c4b0 := decide_eq_false c4; clear c4
     (first | rw [c4b0] | (simp only [i64_w, i32_w]; rw [c4b0]) | skip)
     have H' := Aside0.mk H; clear H
     go_wp2
     go_meet
     case rel => exact ⟨_, (false), cl, H', ⟨by have := HK1.out; first | omega | exact Nat.le_refl _⟩, ⟨ra HO_3.out⟩, ⟨bw⟩⟩
    case rest =>
     clear HC3
     try clear c1
     try clear p1
     try clear q1
     try clear hx1
     try clear c2
     try clear c2b0
     try clear p2
     try clear c4
     try clear c4b0
     try clear c5
     try clear c5b0
     try clear p6
     try clear q6
     try clear hx6
     try clear c7
     try clear c7b0
     try clear c7b1
     try clear p8
     try clear q8
     try clear hx8
     try clear c9
     try clear c9b0
     try clear c9b1
     try clear p10
     try clear q10
     try clear hx10
     try clear c11
     try clear c11b0
     try clear c11b1
     try clear p12
     try clear q12
     try clear hx12
     try clear p10
     try clear p12
     try clear p6
     try clear p8
     try clear q10
     try clear q12
     try clear q6
     try clear q8
     obtain ⟨kq, x39_2, rfl, HA, HJ2, HO_3, HB⟩ := hcut; cases kq with
     | zero => exact absurd HA.out (by simp [bulletinref06_Words.j1])
     | succ kj2 =>
      have H := HA.out; clear HA; simp only [bulletinref06_Words.j1] at H
      by_cases c13 : x39_2 = true
      ·subst c13; rw [if_pos rfl] at H
       by_cases c14 : 0 ≤ x5_1
       ·rw [if_pos c14] at H; have c14b0 := eq_true c14; have c14b1 := decide_eq_true c14; clear c14
        by_cases c15 : x5_1 ≤ (wrap64 (x5_1 + 1))
        ·rw [if_pos c15] at H; have c15b0 := eq_true c15; have c15b1 := decide_eq_true c15
         by_cases c16 : (wrap64 (x5_1 + 1)) ≤ (a0.size : Int)
         ·rw [if_pos c16] at H; have c16b0 := eq_true c16; have c16b1 := decide_eq_true c16
          by_cases c17 : x4_1.size + (a0.extract (x5_1 : Int).toNat ((wrap64 (x5_1 + 1)) : Int).toNat).size ≤ 9223372036854775807
          ·rw [if_pos c17] at H; have c17b0 := eq_true c17; have c17b1 := decide_eq_true c17
           try have c17b2 : (9223372036854775807 < x4_1.size + (a0.extract (x5_1 : Int).toNat ((wrap64 (x5_1 + 1)) : Int).toNat).size) = False := eq_false (Nat.not_lt.2 c17)
           try (have c17b3 := c17; simp only [ByteArray.size_append, size_lit, ByteArray.size_extract, List.size_toArray, List.length_cons, List.length_nil, Nat.zero_add, Nat.reduceAdd] at c17b3; have c17b4 := eq_false (Nat.not_lt.2 c17b3))
           have H' := Aside0.mk H; clear H
           go_wp2
           go_roundg kj2
           case measure => have := HK1.out; have := HJ2.out; omega
           case rel => exact ⟨(x3_1), (x4_1 ++ (a0.extract (x5_1 : Int).toNat ((wrap64 (x5_1 + 1)) : Int).toNat)), (wrap64 (x5_1 + 1)), cl, cl, H', ⟨by have := HK1.out; have := HJ2.out; omega⟩, ⟨ra HO_3.out⟩, ⟨bw⟩⟩
          rw [if_neg c17] at H; exact absurd H (by simp)
         rw [if_neg c16] at H; exact absurd H (by simp)
        rw [if_neg c15] at H; exact absurd H (by simp)
       rw [if_neg c14] at H; exact absurd H (by simp)
      replace c13 := Bool.eq_false_iff.mpr c13; subst c13; rw [if_neg nft] at H
      by_cases c18 : x4_1.toList = ([] : List UInt8)
      ·rw [if_pos c18] at H; have c18b0 := beq_iff_eq.mpr c18; have c18b1 := bne_eq_false_iff_eq.mpr c18; clear c18; have H' := Aside0.mk H; clear H
       go_wp2
       go_roundg kj2
       case measure => have := HK1.out; have := HJ2.out; omega
       case rel => exact ⟨(x3_1), ((⟨#[]⟩ : ByteArray)), (wrap64 (x5_1 + 1)), cl, cl, H', ⟨by have := HK1.out; have := HJ2.out; omega⟩, ⟨ra HO_3.out⟩, ⟨bw⟩⟩
      rw [if_neg c18] at H; have c18b0 := beq_eq_false_iff_ne.mpr c18; have c18b1 := bne_iff_ne.mpr c18
      by_cases c19 : x3_1.length < 8796093022208
      ·rw [if_pos c19] at H; have LMc19 := Aside0.mk c19; clear c19; obtain ⟨y822, hy822⟩ : ∃ y_ : List ByteArray, y_ = (x3_1 ++ [x4_1]) := ⟨_, rfl⟩
       replace H : (bulletinref06_Words.l0 kj2 a0 y822 (⟨#[]⟩ : ByteArray) (wrap64 (x5_1 + 1))) = some r := by first | (rw [hy822]; with_reducible exact H) | (have H2_ := (Option.bind_some _ _).symm.trans H; rw [hy822]; with_reducible exact H2_) | (have H2_ := (Option.bind_some _ _).symm.trans H; with_reducible exact H2_) | with_reducible exact H | (rw [hy822]; exact H) | exact H
       have Ny822 := Aside0.mk hy822; clear hy822; have H' := Aside0.mk H; clear H
       go_wp2_with (first | ((with_reducible refine gate_builtin (b := .append) (xs := #[.tmp 49, .tmp 51]) rfl ?_); at_builtin; refine Kd.R_append Kd.string (w0 := w) w.heap.size rfl (.tmp 49) (.tmp 51) 53 9 (.string ⟨#[]⟩) 16 rfl Tryz.underlying53 info9 rfl (by decide) (by omega) u3 x3_1 x4_1 [.string x4_1] (fun _ => True) (fun _ => False) rfl rfl ?aP (fun _ hk => hk.elim) ?aF ?aO ?aB ?aS ?aL ?_; (case aP => exact rfl); (case aB => exact bw); (case aF => exact (fun _ _ => trivial)); (case aO => exact (ra HO_3.out)); (case aS => exact (below_size bw)); (case aL => have := LMc19.out; omega); intro v823 w20 ho hb hg hat; rw [← Ny822.out] at ho; have n0_ := Aside0.mk (hb); have n1_ := Aside0.mk (ho); clear HB; clear HO_3; have HB := n0_; have HO824 := n1_; clear n0_ n1_; clear ho hb hg hat))
       go_roundg kj2
       case measure => have := HK1.out; have := HJ2.out; omega
       case rel => exact ⟨(y822), ((⟨#[]⟩ : ByteArray)), (wrap64 (x5_1 + 1)), cl, cl, H', ⟨by have := HK1.out; have := HJ2.out; omega⟩, ⟨ra HO824.out⟩, ⟨bw⟩⟩
      rw [if_neg c19] at H; exact absurd H (by simp)
   rw [if_neg c2] at H; have c2b0 := decide_eq_false c2; clear c2; obtain rfl := Option.some.inj H
   go_wp2
   go_ret
   exact ⟨_, ew, ra HO_3.out, bw⟩

end Go.Proofs.YtihabmcaplnbcaaGreatDoor.Fn
namespace Go.Proofs.YtihabmcaplnbcaaGreatDoor.Fn
open Go.RowKit Go.Proofs.YtihabmcaplnbcaaGreatDoorW.PrintWords Go.Proofs.YtihabmcaplnbcaaGreatDoorW.PrintLast Go.Proofs.YtihabmcaplnbcaaGreatDoorW.PrintMore
attribute [local go_sem] max2_int min2_int max_two min_two max_three min_three max_four min_four
set_option linter.unusedVariables false
set_option linter.unusedSimpArgs false
def bulletinref35_Words.f (k : Nat) (a0 : ByteArray) : Option (List ByteArray) := (bulletinref06_Clean.f k a0).bind fun t859 => ((bulletinref06_Fold.f k t859).bind fun t860 => ((bulletinref06_Words.f k t860).bind fun t861 => (some t861)))
set_option maxHeartbeats 8000000 in
set_option maxRecDepth 100000 in
theorem bulletinref35_Words.calls (k : Nat) (a0 : ByteArray) (r : List ByteArray) (w : World) (h : bulletinref35_Words.f k a0 = some r) :
  Calls Tryz.prog 59 #[.string a0] w fun e w' => ∃ v0_ : Value, e = .returned (v0_) ∧ Kd.R Kd.string 9 w' w.heap.size (fun _ => True) v0_ r ∧ Below w.heap.size w w' := by
 have HB := Aside0.mk (Below.refl w.heap.size w); have H : ((bulletinref06_Clean.f k a0).bind fun t859 => ((bulletinref06_Fold.f k t859).bind fun t860 => ((bulletinref06_Words.f k t860).bind fun t861 => (some t861)))) = some r := h; clear h; replace H := Option.bind_eq_some_iff.mp H; obtain ⟨t859, A20, H⟩ := H; have A2 := Aside0.mk A20; clear A20; replace H := Option.bind_eq_some_iff.mp H; obtain ⟨t860, A30, H⟩ := H; have A3 := Aside0.mk A30; clear A30; replace H := Option.bind_eq_some_iff.mp H; obtain ⟨t861, A40, H⟩ := H; have A4 := Aside0.mk A40; clear A40; obtain rfl := Option.some.inj H
 go_enter Tryz.func59, Tryz.ntmps59
 go_wp2_with (first | ((with_reducible refine gate_callee (f := 99) rfl ?_); refine goesL_ (some 4) rfl rfl Tryz.func99 (by kernel_rfl) rfl #[.string a0] rfl am ?_; (with_reducible refine (bulletinref06_Clean.calls k a0 t859 _ A2.out).mono ?_); rintro e w5 ⟨rfl, hb⟩; refine ⟨_, rfl, ?_⟩; have n0_ := Aside0.mk (below_step bw hb); clear HB; have HB := n0_; clear n0_; (try clear hb); (try clear hb2); (try clear hk); (try clear hi)) | ((with_reducible refine gate_callee (f := 49) rfl ?_); refine goesL_ (some 5) rfl rfl Tryz.func49 (by kernel_rfl) rfl #[.string t859] rfl am ?_; (with_reducible refine (bulletinref06_Fold.calls k t859 t860 _ A3.out).mono ?_); rintro e w6 ⟨rfl, hb⟩; refine ⟨_, rfl, ?_⟩; have n0_ := Aside0.mk (below_step bw hb); clear HB; have HB := n0_; clear n0_; (try clear hb); (try clear hb2); (try clear hk); (try clear hi)) | ((with_reducible refine gate_callee (f := 98) rfl ?_); refine goesL_ (some 6) rfl rfl Tryz.func98 (by kernel_rfl) rfl #[.string t860] rfl am ?_; (with_reducible refine (bulletinref06_Words.calls k t860 t861 _ A4.out).mono ?_); rintro e w7 ⟨v862, rfl, ho0, hb⟩; refine ⟨_, rfl, ?_⟩; have n0_ := Aside0.mk (Kd.R_lower ho0 (below_size bw)); have n1_ := Aside0.mk (below_step bw hb); clear HB; have HO863 := n0_; have HB := n1_; clear n0_ n1_; (try clear hb); (try clear hb2); (try clear hk); (try clear hi); (try clear ho0)))
 go_ret
 exact ⟨_, ew, ra HO863.out, bw⟩

def bulletinref35_stops.f (a0 : ByteArray) : Option (Bool) := if a0.toList = ([101, 110, 100] : List UInt8) then (some true) else (if a0.toList = ([115, 116, 111, 112] : List UInt8) then (some true) else (if a0.toList = ([113, 117, 105, 116] : List UInt8) then (some true) else (some (a0.toList == ([45, 45] : List UInt8)))))
set_option maxHeartbeats 8000000 in
set_option maxRecDepth 100000 in
theorem bulletinref35_stops.calls (a0 : ByteArray) (r : Bool) (w : World) (h : bulletinref35_stops.f a0 = some r) :
  Calls Tryz.prog 61 #[.string a0] w fun e w' => e = .returned (.bool r) ∧ Drawn0 w w' := by
 have H : (if a0.toList = ([101, 110, 100] : List UInt8) then (some true) else (if a0.toList = ([115, 116, 111, 112] : List UInt8) then (some true) else (if a0.toList = ([113, 117, 105, 116] : List UInt8) then (some true) else (some (a0.toList == ([45, 45] : List UInt8)))))) = some r := h; clear h
 by_cases c2 : a0.toList = ([101, 110, 100] : List UInt8)
 ·rw [if_pos c2] at H; have c2b0 := beq_iff_eq.mpr c2; have c2b1 := bne_eq_false_iff_eq.mpr c2; clear c2; obtain rfl := Option.some.inj H
  go_enter Tryz.func61, Tryz.ntmps61
  go_wp2
  go_ret
  exact ⟨cl, d0⟩
 rw [if_neg c2] at H; have c2b0 := beq_eq_false_iff_ne.mpr c2; have c2b1 := bne_iff_ne.mpr c2
 by_cases c3 : a0.toList = ([115, 116, 111, 112] : List UInt8)
 ·rw [if_pos c3] at H; have c3b0 := beq_iff_eq.mpr c3; have c3b1 := bne_eq_false_iff_eq.mpr c3; clear c3; obtain rfl := Option.some.inj H
  go_enter Tryz.func61, Tryz.ntmps61
  go_wp2
  go_ret
  exact ⟨cl, d0⟩
 rw [if_neg c3] at H; have c3b0 := beq_eq_false_iff_ne.mpr c3; have c3b1 := bne_iff_ne.mpr c3
 by_cases c4 : a0.toList = ([113, 117, 105, 116] : List UInt8)
 ·rw [if_pos c4] at H; have c4b0 := beq_iff_eq.mpr c4; have c4b1 := bne_eq_false_iff_eq.mpr c4; clear c4; obtain rfl := Option.some.inj H
  go_enter Tryz.func61, Tryz.ntmps61
  go_wp2
  go_ret
  exact ⟨cl, d0⟩
 rw [if_neg c4] at H; have c4b0 := beq_eq_false_iff_ne.mpr c4; have c4b1 := bne_iff_ne.mpr c4; obtain rfl := Option.some.inj H
 go_enter Tryz.func61, Tryz.ntmps61
 go_wp2
 go_ret
 exact ⟨cl, d0⟩

end Go.Proofs.YtihabmcaplnbcaaGreatDoor.Fn
namespace Go.Proofs.YtihabmcaplnbcaaGreatDoor.Fn
open Go.RowKit Go.Proofs.YtihabmcaplnbcaaGreatDoorW.PrintWords Go.Proofs.YtihabmcaplnbcaaGreatDoorW.PrintLast Go.Proofs.YtihabmcaplnbcaaGreatDoorW.PrintMore
attribute [local go_sem] max2_int min2_int max_two min_two max_three min_three max_four min_four
set_option linter.unusedVariables false
set_option linter.unusedSimpArgs false

attribute [local go_sem] fld65_0 fld65_1 fld65_2
mutual
def bulletinref35_Read.j1 : Nat → List (S65) → List ByteArray → List (S74) → ByteArray → Option ((List (S65)))
 | 0, _, _, _, _ => none
 | k + 1, x3, x4, x927000, x927001 => if (x4.length : Int) > 0 then (if 0 < (x4.length : Int) then ((bulletinref35_stops.f (rdOf ByteArray.empty x4 0)).bind fun t936 => (if t936 = true then (bulletinref35_Read.j2 k x3 x4 false x927000 x927001) else ((bulletinref35_Of.f k x4).bind fun bt937 => (bulletinref35_Read.j2 k x3 x4 (bt937.1 != 5) x927000 x927001)))) else (none)) else (bulletinref35_Read.j2 k x3 x4 false x927000 x927001)
def bulletinref35_Read.j2 : Nat → List (S65) → List ByteArray → Bool → List (S74) → ByteArray → Option ((List (S65)))
 | 0, _, _, _, _, _ => none
 | k + 1, x3, x4, x38, x927000, x927001 => if x38 = true then ((bulletinref35_Of.f k x4).bind fun bt940 => (if x3.length < 4398046511104 then (bulletinref35_Read.j3 k (x3 ++ [(⟨bt940.1, bt940.2.1, bt940.2.2⟩ : S65)]) x927000 x927001) else (none))) else (bulletinref35_Read.j3 k x3 x927000 x927001)
def bulletinref35_Read.j3 : Nat → List (S65) → List (S74) → ByteArray → Option ((List (S65)))
 | 0, _, _, _ => none
 | k + 1, x3, x927000, x927001 => (bulletinref16_Lines.f k x927000 x927001).bind fun t946 => (bulletinref35_Read.l1 k x3 t946 0 0)
def bulletinref35_Read.l1 : Nat → List (S65) → List ByteArray → Int → Int → Option ((List (S65)))
 | 0, _, _, _, _ => none
 | k + 1, x3, x5, x6, x7 => if x7 < (x5.length : Int) then (if (x3.length : Int) < 8 then (bulletinref35_Read.j5 k x3 x5 x6 x7 (decide (x6 < 3))) else (bulletinref35_Read.j5 k x3 x5 x6 x7 false)) else (bulletinref35_Read.j5 k x3 x5 x6 x7 false)
def bulletinref35_Read.j5 : Nat → List (S65) → List ByteArray → Int → Int → Bool → Option ((List (S65)))
 | 0, _, _, _, _, _ => none
 | k + 1, x3, x5, x6, x7, x58 => if x58 = true then (if 0 ≤ x7 then (if x7 < (x5.length : Int) then ((bulletinref35_Words.f k (rdOf ByteArray.empty x5 x7)).bind fun t950 => (if (t950.length : Int) = 0 then (bulletinref35_Read.j6 k x3 t950 x5 x6 x7 true) else (if 0 < (t950.length : Int) then (if 0 < ((rdOf ByteArray.empty t950 0).size : Int) then (bulletinref35_Read.j6 k x3 t950 x5 x6 x7 ((bt (rdOf ByteArray.empty t950 0) 0) == 62)) else (none)) else (none)))) else (none)) else (none)) else (some x3)
def bulletinref35_Read.j6 : Nat → List (S65) → List ByteArray → List ByteArray → Int → Int → Bool → Option ((List (S65)))
 | 0, _, _, _, _, _, _ => none
 | k + 1, x3, x4, x5, x6, x7, x75 => if x75 = true then (bulletinref35_Read.l1 k x3 x5 x6 (wrap64 (x7 + 1))) else (if 0 < (x4.length : Int) then ((bulletinref35_stops.f (rdOf ByteArray.empty x4 0)).bind fun t955 => (if t955 = true then (some x3) else ((bulletinref35_Of.f k x4).bind fun bt956 => (if bt956.1 = 5 then (if x3.length < 4398046511104 then (bulletinref35_Read.l1 k (x3 ++ [(⟨bt956.1, bt956.2.1, bt956.2.2⟩ : S65)]) x5 (wrap64 (x6 + 1)) (wrap64 (x7 + 1))) else (none)) else (if x3.length < 4398046511104 then (bulletinref35_Read.l1 k (x3 ++ [(⟨bt956.1, bt956.2.1, bt956.2.2⟩ : S65)]) x5 x6 (wrap64 (x7 + 1))) else (none)))))) else (none))
def bulletinref35_Read.l0 : Nat → List ByteArray → List (S74) → ByteArray → Option ((List (S65)))
 | 0, _, _, _ => none
 | k + 1, x4, x927000, x927001 => if (x4.length : Int) > 0 then (if 0 < (x4.length : Int) then (if (rdOf ByteArray.empty x4 0).toList = ([114, 101, 58] : List UInt8) then (if 1 ≤ (x4.length : Int) then (bulletinref35_Read.l0 k (x4.drop (1 : Int).toNat) x927000 x927001) else (none)) else (bulletinref35_Read.j1 k ([] : List (S65)) x4 x927000 x927001)) else (none)) else (bulletinref35_Read.j1 k ([] : List (S65)) x4 x927000 x927001)
end
def bulletinref35_Read.f (k : Nat) (l0_0 : List (S74)) (a0_1 : ByteArray) : Option ((List (S65))) := (bulletinref34_Subject.f k l0_0 a0_1).bind fun t927 => ((bulletinref35_Words.f k t927).bind fun t928 => (bulletinref35_Read.l0 k t928 l0_0 a0_1))
set_option maxHeartbeats 8000000 in
set_option maxRecDepth 100000 in
theorem bulletinref35_Read.calls (k : Nat) (A0_0 : Option Addr) (c0_0 : Nat) (l0_0 : List (S74)) (a0_1 : ByteArray) (r : List (S65)) (w : World) (hr0_0 : Kd.C k74 w A0_0 l0_0.length l0_0) (hc0_0 : l0_0.length ≤ c0_0) (h : bulletinref35_Read.f k l0_0 a0_1 = some r) :
  Calls Tryz.prog 29 #[.agg #[.slice A0_0 l0_0.length c0_0, .string a0_1]] w fun e w' => ∃ v0_ : Value, e = .returned (v0_) ∧ Kd.R k65 65 w' w.heap.size (fun _ => True) v0_ r ∧ Below w.heap.size w w' := by
 have hu24 := Tryz.underlying24; have hu65 := Tryz.underlying65; have HR0_0 := Aside0.mk hr0_0; have HC0_0 := Aside0.mk hc0_0; clear hr0_0 hc0_0; have HB := Aside0.mk (Below.refl w.heap.size w); have H : ((bulletinref34_Subject.f k l0_0 a0_1).bind fun t927 => ((bulletinref35_Words.f k t927).bind fun t928 => (bulletinref35_Read.l0 k t928 l0_0 a0_1))) = some r := h; clear h; replace H := Option.bind_eq_some_iff.mp H; obtain ⟨t927, A20, H⟩ := H; have A2 := Aside0.mk A20; clear A20; replace H := Option.bind_eq_some_iff.mp H; obtain ⟨t928, A30, H⟩ := H; have A3 := Aside0.mk A30; clear A30; have HC4 := Aside0.mk H; clear H
 go_enter Tryz.func29, Tryz.ntmps29
 go_upto_block 0 with (first | ((with_reducible refine gate_dst (N := 1) rfl ?_); (try (refine gate_guard (by rfl) ?_; dsimp only)); refine box_event ?hg (N := 1) ?hd (cs := #[.slice A0_0 l0_0.length c0_0, .string a0_1]) (t := 24) ?hr ?_; (case hd => rfl); (case hg => rfl); (case hr => first | (go_simp; done) | (go_simp; rfl)); intro gb926 hg w5 hbox hb; have n0_ := Aside0.mk (below_step bw hb); have n1_ := Aside0.mk (hbox); have n2_ := Aside0.mk ((by rw [hg]; exact (below_size bw) : w.heap.size ≤ gb926)); have n3_ := Aside0.mk ((by rw [hg]; exact (below_size bw) : w.heap.size ≤ gb926)); clear HB; have HB := n0_; have BK926 := n1_; have GW926 := n2_; have GE926 := n3_; clear n0_ n1_ n2_ n3_; clear hb hbox hg; have hcz6_0 : w5.cell? ⟨gb926, 0, none⟩ = some (.slice A0_0 l0_0.length c0_0) := (blk_cell BK926.out 0).trans rfl; have hcz6_1 : w5.cell? ⟨gb926, 1, none⟩ = some (.string a0_1) := (blk_cell BK926.out 1).trans rfl; have hfz6_0 := blk_frozen BK926.out 0; have hfz6_1 := blk_frozen BK926.out 1) | ((with_reducible refine gate_callee (f := 60) rfl ?_); refine goesL_ (some 10) rfl rfl Tryz.func60 (by kernel_rfl) rfl #[.agg #[.slice A0_0 l0_0.length c0_0, .string a0_1]] rfl am ?_; (with_reducible refine (bulletinref34_Subject.calls k _ _ l0_0 a0_1 t927 _ ?side1 ?side2 A2.out).mono ?_); (case side1 => repeat (first | exact (Kd.C_below HR0_0.out HB.out) | (with_reducible refine Kd.C_alloc ?_ _) | (with_reducible refine Kd.C_drewN ?_ _) | (with_reducible refine Kd.C_drew ?_))); (case side2 => exact HC0_0.out); rintro e w7 ⟨rfl, hb⟩; refine ⟨_, rfl, ?_⟩; have n0_ := Aside0.mk (blk_below (g := gb926) (o := .cells #[.slice A0_0 l0_0.length c0_0, .string a0_1] 24 (0, 0)) bk hb); have n1_ := Aside0.mk (below_step bwS hb); clear BK926; clear HB; have BK926 := n0_; have HB := n1_; clear n0_ n1_; (try clear hb); (try clear hb2); (try clear hk); (try clear hi)) | ((with_reducible refine gate_callee (f := 59) rfl ?_); refine goesL_ (some 11) rfl rfl Tryz.func59 (by kernel_rfl) rfl #[.string t927] rfl am ?_; (with_reducible refine (bulletinref35_Words.calls k t927 t928 _ A3.out).mono ?_); rintro e w8 ⟨v929, rfl, ho0, hb⟩; refine ⟨_, rfl, ?_⟩; have n0_ := Aside0.mk (Kd.R_lower ho0 (below_size bwS)); have n1_ := Aside0.mk (blk_below (g := gb926) (o := .cells #[.slice A0_0 l0_0.length c0_0, .string a0_1] 24 (0, 0)) bk hb); have n2_ := Aside0.mk (below_step bwS hb); clear BK926; clear HB; have HO930 := n0_; have BK926 := n1_; have HB := n2_; clear n0_ n1_ n2_; (try clear hb); (try clear hb2); (try clear hk); (try clear hi); (try clear ho0)))
 (try simp only [Act.put, List.setIfInBounds_toArray, List.set_cons_zero, List.set_cons_succ])
 go_cut [4] (fun v4 wc => ∃ (kq : Nat) (x4_3 : List ByteArray), Aside0 (bulletinref35_Read.j1 kq ([] : List (S65)) x4_3 l0_0 a0_1 = some r) ∧ Aside0 (kq ≤ k) ∧ Aside0 (Kd.R k65 65 wc w.heap.size (fun _ => True) (.slice none 0 0) ([] : List (S65))) ∧ Aside0 (Kd.Q Kd.string 9 wc w.heap.size (fun _ => True) v4 x4_3) ∧ Aside0 (wc.heap[gb926]? = some (.cells #[(.slice A0_0 l0_0.length c0_0), .string a0_1] 24 (0, 0))) ∧ Aside0 (Below w.heap.size w wc))
 case first =>
  have H := HC4.out; clear HC4; have H' := Aside0.mk H; clear H
  go_wp2
  go_loopg [4] k (fun kq v4 w' => ∃ (x4_1 : List ByteArray), Aside0 (bulletinref35_Read.l0 kq x4_1 l0_0 a0_1 = some r) ∧ Aside0 (kq ≤ k) ∧ Aside0 (Kd.Q Kd.string 9 w' w.heap.size (fun _ => True) v4 x4_1) ∧ Aside0 (w'.heap[gb926]? = some (.cells #[(.slice A0_0 l0_0.length c0_0), .string a0_1] 24 (0, 0))) ∧ Aside0 (Below w.heap.size w w'))
  case atStart => exact ⟨(t928), H', ⟨Nat.le_refl _⟩, ⟨Kd.Q_of_R (ra HO930.out)⟩, ⟨bk⟩, ⟨bwS⟩⟩
  case round =>
   clear H'
   try clear c2
   try clear p2
   try clear c5
   try clear c6
   try clear hcz6_0
   try clear hcz6_1
   try clear hfz6_0
   try clear hfz6_1
   obtain ⟨x4_1, HA, HK1, HO_4, BK926, HB⟩ := hrel; cases gk with
   | zero => exact absurd HA.out (by simp [bulletinref35_Read.l0])
   | succ k1 =>
    have H := HA.out; clear HA; simp only [bulletinref35_Read.l0] at H
    by_cases c9 : (x4_1.length : Int) > 0
    ·rw [if_pos c9] at H; have c9b0 : decide (0 < (x4_1.length : Int)) = true := decide_eq_true c9; have c9b1 : decide (0 < x4_1.length) = true := decide_eq_true (by omega); clear c9
     (first | rw [c9b0] | (simp only [i64_w, i32_w]; rw [c9b0]) | skip)
     by_cases c10 : 0 < (x4_1.length : Int)
     ·rw [if_pos c10] at H; have c10b0 := decide_eq_true c10; have c10b1 : decide (0 < x4_1.length) = true := decide_eq_true (by omega); clear c10
      by_cases c11 : (rdOf ByteArray.empty x4_1 0).toList = ([114, 101, 58] : List UInt8)
      ·rw [if_pos c11] at H; have c11b0 := beq_iff_eq.mpr c11; have c11b1 := bne_eq_false_iff_eq.mpr c11; clear c11
       by_cases c12 : 1 ≤ (x4_1.length : Int)
       ·rw [if_pos c12] at H; have c12b0 := eq_true c12; have c12b1 := decide_eq_true c12; clear c12; obtain ⟨y932, hy932⟩ : ∃ y_ : List ByteArray, y_ = (x4_1.drop (1 : Int).toNat) := ⟨_, rfl⟩
        replace H : (bulletinref35_Read.l0 k1 y932 l0_0 a0_1) = some r := by first | (rw [hy932]; with_reducible exact H) | (have H2_ := (Option.bind_some _ _).symm.trans H; rw [hy932]; with_reducible exact H2_) | (have H2_ := (Option.bind_some _ _).symm.trans H; with_reducible exact H2_) | with_reducible exact H | (rw [hy932]; exact H) | exact H
        have Ny932 := Aside0.mk hy932; clear hy932; have H' := Aside0.mk H; clear H; obtain ⟨Ao13, co13, eo13, _⟩ := Kd.Q_slice HO_4.out; subst eo13; have p931 : 0 ≤ (0 : Int) := (by omega)
        have q931 : 0 < (x4_1.length : Int) := od; obtain ⟨ad931, e931, hx931_0⟩ := Kd.at_string (Kd.Q_reads' HO_4.out).2.2 0 p931 q931; cases e931; have qi931 : (0 < x4_1.length) = True := eq_true (by omega)
        (try rw [show ((0 : Int)).toNat = 0 from rfl] at hx931_0)
        (try rw [Addr.add_zero'] at hx931_0)
        replace p931 := eq_true p931; replace q931 := eq_true q931; have q14 : (1 : Int) ≤ ((x4_1.length : Int) : Int) := od; obtain ⟨i014, hi014, _, hsz14, _⟩ := info_parts info9; have hcut14 := cut_from (P := Tryz.prog) 53 9 .i64 Tryz.underlying53 hi014 1 hsz14 (some ad931) x4_1.length co13 1 (by omega) q14; have hr14 := Kd.Q_drop (k := (1 : Int).toNat) HO_4.out (by omega); obtain ⟨A14, hA14⟩ : ∃ A1, A1 = (if co13 = (1 : Int).toNat then (some ad931) else ((some ad931) : Option Addr).map (·.add ((1 : Int).toNat * 1))) := ⟨_, rfl⟩
        obtain ⟨c14, hc14⟩ : ∃ c1, c1 = co13 - (1 : Int).toNat := ⟨_, rfl⟩
        have hy14 : y932.length = x4_1.length - (1 : Int).toNat := (by rw [Ny932.out, List.length_drop])
        rw [← Ny932.out] at hr14; rw [← hy14, ← hA14, ← hc14] at hcut14; replace hr14 : Kd.Q Kd.string 9 wr w.heap.size (fun _ => True) (.slice A14 y932.length c14) y932 := (by rw [hA14, hc14, hy14]; exact hr14)
        have HE14 : Aside0 ((Value.slice A14 y932.length c14).ownBlock = (.slice (some ad931) x4_1.length co13 : Value).ownBlock) := ⟨by rw [hA14]; split <;> (cases ((some ad931) : Option Addr) <;> rfl)⟩
        clear hy14 hi014 hsz14 HO_4 hA14 hc14; have HO934 := Aside0.mk hr14; clear hr14; replace q14 := eq_true q14
        go_wp2
        go_roundg k1
        case measure => have := HK1.out; omega
        case rel => exact ⟨(y932), H', ⟨by have := HK1.out; omega⟩, ⟨by (with_reducible repeat (first | apply Kd.Q_alloc | apply Kd.Q_drewN | apply Kd.Q_drew)); exact HO934.out⟩, ⟨bk⟩, ⟨bwS⟩⟩
       rw [if_neg c12] at H; exact absurd H (by simp)
      rw [if_neg c11] at H; have c11b0 := beq_eq_false_iff_ne.mpr c11; have c11b1 := bne_iff_ne.mpr c11; have H' := Aside0.mk H; clear H; obtain ⟨Ao15, co15, eo15, _⟩ := Kd.Q_slice HO_4.out; subst eo15; have p931 : 0 ≤ (0 : Int) := (by omega)
      have q931 : 0 < (x4_1.length : Int) := od; obtain ⟨ad931, e931, hx931_0⟩ := Kd.at_string (Kd.Q_reads' HO_4.out).2.2 0 p931 q931; cases e931; have qi931 : (0 < x4_1.length) = True := eq_true (by omega)
      (try rw [show ((0 : Int)).toNat = 0 from rfl] at hx931_0)
      (try rw [Addr.add_zero'] at hx931_0)
      replace p931 := eq_true p931; replace q931 := eq_true q931
      go_wp2
      go_meet
      case rel => exact ⟨_, (x4_1), H', ⟨by have := HK1.out; first | omega | exact Nat.le_refl _⟩, ⟨by first | exact Kd.R_nil _ _ _ _ _ | exact Kd.N_nil _ _ _ _ _ | exact Kd.V_nil _ _ _ _ _ | exact Kd.Q_nil _ _ _ _ _ | exact Kd.S_nil _ _ _ _ _⟩, ⟨by (with_reducible repeat (first | apply Kd.Q_alloc | apply Kd.Q_drewN | apply Kd.Q_drew)); exact HO_4.out⟩, ⟨bk⟩, ⟨bwS⟩⟩
     rw [if_neg c10] at H; exact absurd H (by simp)
    rw [if_neg c9] at H; have c9b0 : decide (0 < (x4_1.length : Int)) = false := decide_eq_false c9; have c9b1 : decide (0 < x4_1.length) = false := decide_eq_false (by omega); clear c9
    (first | rw [c9b0] | (simp only [i64_w, i32_w]; rw [c9b0]) | skip)
    have H' := Aside0.mk H; clear H; obtain ⟨Ao16, co16, eo16, _⟩ := Kd.Q_slice HO_4.out; subst eo16
    go_wp2
    go_meet
    case rel => exact ⟨_, (x4_1), H', ⟨by have := HK1.out; first | omega | exact Nat.le_refl _⟩, ⟨by first | exact Kd.R_nil _ _ _ _ _ | exact Kd.N_nil _ _ _ _ _ | exact Kd.V_nil _ _ _ _ _ | exact Kd.Q_nil _ _ _ _ _ | exact Kd.S_nil _ _ _ _ _⟩, ⟨by (with_reducible repeat (first | apply Kd.Q_alloc | apply Kd.Q_drewN | apply Kd.Q_drew)); exact HO_4.out⟩, ⟨bk⟩, ⟨bwS⟩⟩
 case rest =>
  clear HC4
  try clear c1
  try clear q1
  try clear c2
  try clear p2
  try clear c5
  try clear c6
  try clear c9
  try clear c9b0
  try clear c9b1
  try clear p9
  try clear q9
  try clear hx9
  try clear qi9
  try clear c10
  try clear c10b0
  try clear c10b1
  try clear c11
  try clear c11b0
  try clear c11b1
  try clear c12
  try clear c12b0
  try clear c12b1
  try clear c14
  try clear q14
  try clear hcz6_0
  try clear hcz6_1
  try clear hfz6_0
  try clear hfz6_1
  try clear hx931_0
  try clear p2
  try clear p931
  try clear q14
  try clear q931
  obtain ⟨kq, x4_3, HA, HJ3, HO_3, HO_4, BK926, HB⟩ := hcut; cases kq with
  | zero => exact absurd HA.out (by simp [bulletinref35_Read.j1])
  | succ kj3 =>
   have H := HA.out; clear HA; simp only [bulletinref35_Read.j1] at H; have HC17 := Aside0.mk H; clear H
   go_upto_region 5 with (fail)
   go_cut [38] (fun v38 wc => ∃ (kq : Nat) (x38_16 : Bool), v38 = .bool x38_16 ∧ Aside0 (bulletinref35_Read.j2 kq ([] : List (S65)) x4_3 x38_16 l0_0 a0_1 = some r) ∧ Aside0 (kq ≤ kj3) ∧ Aside0 (Kd.R k65 65 wc w.heap.size (fun _ => True) (.slice none 0 0) ([] : List (S65))) ∧ Aside0 (Kd.Q Kd.string 9 wc w.heap.size (fun _ => True) u4 x4_3) ∧ Aside0 (wc.heap[gb926]? = some (.cells #[(.slice A0_0 l0_0.length c0_0), .string a0_1] 24 (0, 0))) ∧ Aside0 (Below w.heap.size w wc))
   case first =>
    have H := HC17.out; clear HC17
    by_cases c18 : (x4_3.length : Int) > 0
    ·rw [if_pos c18] at H; have c18b0 : decide (0 < (x4_3.length : Int)) = true := decide_eq_true c18; have c18b1 : decide (0 < x4_3.length) = true := decide_eq_true (by omega); clear c18
     (first | rw [c18b0] | (simp only [i64_w, i32_w]; rw [c18b0]) | skip)
     by_cases c19 : 0 < (x4_3.length : Int)
     ·rw [if_pos c19] at H; have c19b0 := decide_eq_true c19; have c19b1 : decide (0 < x4_3.length) = true := decide_eq_true (by omega); clear c19; replace H := Option.bind_eq_some_iff.mp H; obtain ⟨t936, A200, H⟩ := H; have A20 := Aside0.mk A200; clear A200
      by_cases c21 : t936 = true
      ·subst c21; rw [if_pos rfl] at H; have H' := Aside0.mk H; clear H; obtain ⟨Ao22, co22, eo22, _⟩ := Kd.Q_slice HO_4.out; subst eo22; have p935 : 0 ≤ (0 : Int) := (by omega)
       have q935 : 0 < (x4_3.length : Int) := od; obtain ⟨ad935, e935, hx935_0⟩ := Kd.at_string (Kd.Q_reads' HO_4.out).2.2 0 p935 q935; cases e935; have qi935 : (0 < x4_3.length) = True := eq_true (by omega)
       (try rw [show ((0 : Int)).toNat = 0 from rfl] at hx935_0)
       (try rw [Addr.add_zero'] at hx935_0)
       replace p935 := eq_true p935; replace q935 := eq_true q935
       go_wp2_with (first | (go_at_call 61; (with_reducible refine (bulletinref35_stops.calls (rdOf ByteArray.empty x4_3 0) true _ A20.out).mono ?_); rintro e w' ⟨rfl, ⟨nd, rfl⟩⟩))
       go_meet
       case rel => exact ⟨_, (false), cl, H', ⟨by have := HJ3.out; first | omega | exact Nat.le_refl _⟩, ⟨ra HO_3.out⟩, ⟨by (with_reducible repeat (first | apply Kd.Q_alloc | apply Kd.Q_drewN | apply Kd.Q_drew)); exact HO_4.out⟩, ⟨bk⟩, ⟨bwS⟩⟩
      replace c21 := Bool.eq_false_iff.mpr c21; subst c21; rw [if_neg nft] at H; replace H := Option.bind_eq_some_iff.mp H; obtain ⟨⟨t937, t938, t939⟩, A230, H⟩ := H; replace H : (bulletinref35_Read.j2 kj3 ([] : List (S65)) x4_3 (t937 != 5) l0_0 a0_1) = some r := H; have A23 := Aside0.mk A230; clear A230; have H' := Aside0.mk H; clear H; obtain ⟨Ao24, co24, eo24, _⟩ := Kd.Q_slice HO_4.out; subst eo24; have p935 : 0 ≤ (0 : Int) := (by omega)
      have q935 : 0 < (x4_3.length : Int) := od; obtain ⟨ad935, e935, hx935_0⟩ := Kd.at_string (Kd.Q_reads' HO_4.out).2.2 0 p935 q935; cases e935; have qi935 : (0 < x4_3.length) = True := eq_true (by omega)
      (try rw [show ((0 : Int)).toNat = 0 from rfl] at hx935_0)
      (try rw [Addr.add_zero'] at hx935_0)
      replace p935 := eq_true p935; replace q935 := eq_true q935
      go_wp2_with (first | (go_at_call 61; (with_reducible refine (bulletinref35_stops.calls (rdOf ByteArray.empty x4_3 0) false _ A20.out).mono ?_); rintro e w' ⟨rfl, ⟨nd, rfl⟩⟩) | (go_at_call 62; (with_reducible refine (bulletinref35_Of.calls kj3 _ _ x4_3 t937 t938 t939 _ ?side1 ?side2 A23.out).mono ?_); (case side1 => repeat (first | exact (Kd.Q_reads' HO_4.out).2.2 | (with_reducible refine Kd.C_alloc ?_ _) | (with_reducible refine Kd.C_drewN ?_ _) | (with_reducible refine Kd.C_drew ?_))); (case side2 => exact (Kd.Q_reads' HO_4.out).2.1); rintro e w25 ⟨rfl, hb⟩; have n0_ := Aside0.mk (Kd.R_below (ra HO_3.out) hb); have n1_ := Aside0.mk (Kd.Q_below (by (with_reducible repeat (first | apply Kd.Q_alloc | apply Kd.Q_drewN | apply Kd.Q_drew)); exact HO_4.out) hb); have n2_ := Aside0.mk (blk_below (g := gb926) (o := .cells #[.slice A0_0 l0_0.length c0_0, .string a0_1] 24 (0, 0)) bk hb); have n3_ := Aside0.mk (below_step bwS hb); clear HO_3; clear HO_4; clear BK926; clear HB; have HO_3 := n0_; have HO_4 := n1_; have BK926 := n2_; have HB := n3_; clear n0_ n1_ n2_ n3_; (try clear hb); (try clear hb2); (try clear hk); (try clear hi)))
      go_meet
      case rel => exact ⟨_, ((t937 != 5)), cl, H', ⟨by have := HJ3.out; first | omega | exact Nat.le_refl _⟩, ⟨ra HO_3.out⟩, ⟨by (with_reducible repeat (first | apply Kd.Q_alloc | apply Kd.Q_drewN | apply Kd.Q_drew)); exact HO_4.out⟩, ⟨bk⟩, ⟨bwS⟩⟩
     rw [if_neg c19] at H; exact absurd H (by simp)
    rw [if_neg c18] at H; have c18b0 : decide (0 < (x4_3.length : Int)) = false := decide_eq_false c18; have c18b1 : decide (0 < x4_3.length) = false := decide_eq_false (by omega); clear c18
    (first | rw [c18b0] | (simp only [i64_w, i32_w]; rw [c18b0]) | skip)
    have H' := Aside0.mk H; clear H; obtain ⟨Ao26, co26, eo26, _⟩ := Kd.Q_slice HO_4.out; subst eo26
    go_wp2
    go_meet
    case rel => exact ⟨_, (false), cl, H', ⟨by have := HJ3.out; first | omega | exact Nat.le_refl _⟩, ⟨ra HO_3.out⟩, ⟨by (with_reducible repeat (first | apply Kd.Q_alloc | apply Kd.Q_drewN | apply Kd.Q_drew)); exact HO_4.out⟩, ⟨bk⟩, ⟨bwS⟩⟩
   case rest =>
    clear HC17
    try clear c1
    try clear q1
    try clear c2
    try clear p2
    try clear c5
    try clear c6
    try clear c9
    try clear c9b0
    try clear c9b1
    try clear p9
    try clear q9
    try clear hx9
    try clear qi9
    try clear c10
    try clear c10b0
    try clear c10b1
    try clear c11
    try clear c11b0
    try clear c11b1
    try clear c12
    try clear c12b0
    try clear c12b1
    try clear c14
    try clear q14
    try clear c18
    try clear c18b0
    try clear c18b1
    try clear c19
    try clear c19b0
    try clear c19b1
    try clear c21
    try clear hcz6_0
    try clear hcz6_1
    try clear hfz6_0
    try clear hfz6_1
    try clear hx931_0
    try clear hx935_0
    try clear p2
    try clear p9
    try clear p931
    try clear p935
    try clear q1
    try clear q14
    try clear q9
    try clear q931
    try clear q935
    obtain ⟨kq, x38_16, rfl, HA, HJ16, HO_3, HO_4, BK926, HB⟩ := hcut; cases kq with
    | zero => exact absurd HA.out (by simp [bulletinref35_Read.j2])
    | succ kj16 =>
     have H := HA.out; clear HA; simp only [bulletinref35_Read.j2] at H; have HC27 := Aside0.mk H; clear H
     go_upto_if 38 with (fail)
     go_cut [3] (fun v3 wc => ∃ (kq : Nat) (x3_26 : List (S65)), Aside0 (bulletinref35_Read.j3 kq x3_26 l0_0 a0_1 = some r) ∧ Aside0 (kq ≤ kj16) ∧ Aside0 (Kd.R k65 65 wc w.heap.size (fun _ => True) v3 x3_26) ∧ Aside0 (wc.heap[gb926]? = some (.cells #[(.slice A0_0 l0_0.length c0_0), .string a0_1] 24 (0, 0))) ∧ Aside0 (Below w.heap.size w wc))
     case first =>
      have H := HC27.out; clear HC27
      by_cases c28 : x38_16 = true
      ·subst c28; rw [if_pos rfl] at H; replace H := Option.bind_eq_some_iff.mp H; obtain ⟨⟨t940, t941, t942⟩, A290, H⟩ := H; replace H : (if ([] : List (S65)).length < 4398046511104 then (bulletinref35_Read.j3 kj16 (([] : List (S65)) ++ [(⟨t940, t941, t942⟩ : S65)]) l0_0 a0_1) else (none)) = some r := H; have A29 := Aside0.mk A290; clear A290
       by_cases c30 : ([] : List (S65)).length < 4398046511104
       ·rw [if_pos c30] at H; have LMc30 := Aside0.mk c30; clear c30; obtain ⟨y943, hy943⟩ : ∃ y_ : List (S65), y_ = (([] : List (S65)) ++ [(⟨t940, t941, t942⟩ : S65)]) := ⟨_, rfl⟩
        replace H : (bulletinref35_Read.j3 kj16 y943 l0_0 a0_1) = some r := by first | (rw [hy943]; with_reducible exact H) | (have H2_ := (Option.bind_some _ _).symm.trans H; rw [hy943]; with_reducible exact H2_) | (have H2_ := (Option.bind_some _ _).symm.trans H; with_reducible exact H2_) | with_reducible exact H | (rw [hy943]; exact H) | exact H
        have Ny943 := Aside0.mk hy943; clear hy943; have H' := Aside0.mk H; clear H; obtain ⟨Ao31, co31, eo31, _⟩ := Kd.Q_slice HO_4.out; subst eo31
        go_wp2_with (first | ((with_reducible refine gate_callee (f := 62) rfl ?_); refine goesL_ (some 41) rfl rfl Tryz.func62 (by kernel_rfl) rfl #[.slice Ao31 x4_3.length co31] rfl am ?_; (with_reducible refine (bulletinref35_Of.calls kj16 _ _ x4_3 t940 t941 t942 _ ?side1 ?side2 A29.out).mono ?_); (case side1 => repeat (first | exact (Kd.Q_reads' HO_4.out).2.2 | (with_reducible refine Kd.C_alloc ?_ _) | (with_reducible refine Kd.C_drewN ?_ _) | (with_reducible refine Kd.C_drew ?_))); (case side2 => exact (Kd.Q_reads' HO_4.out).2.1); rintro e w32 ⟨rfl, hb⟩; refine ⟨_, rfl, ?_⟩; have n0_ := Aside0.mk (Kd.R_below (ra HO_3.out) hb); have n1_ := Aside0.mk (Kd.Q_below (by (with_reducible repeat (first | apply Kd.Q_alloc | apply Kd.Q_drewN | apply Kd.Q_drew)); exact HO_4.out) hb); have n2_ := Aside0.mk (blk_below (g := gb926) (o := .cells #[.slice A0_0 l0_0.length c0_0, .string a0_1] 24 (0, 0)) bk hb); have n3_ := Aside0.mk (below_step bwS hb); clear HO_3; clear HO_4; clear BK926; clear HB; have HO_3 := n0_; have HO_4 := n1_; have BK926 := n2_; have HB := n3_; clear n0_ n1_ n2_ n3_; (try clear hb); (try clear hb2); (try clear hk); (try clear hi)) | ((with_reducible refine gate_builtin (b := .append) (xs := #[.tmp 39, .tmp 42]) rfl ?_); (try (refine gate_guard (by rfl) ?_; dsimp only)); at_builtin; refine Kd.R_append k65 (w0 := w) w.heap.size rfl (.tmp 39) (.tmp 42) 60 65 (.agg #[(.int .i64 0), (.int .i64 0), (.string ⟨#[]⟩)]) 32 rfl Tryz.underlying60 info65 rfl (by decide) (by omega) (.slice none 0 0) ([] : List (S65)) (⟨t940, t941, t942⟩ : S65) [.int .i64 t940, .int .i64 t941, .string t942] (fun _ => True) (fun _ => False) rfl rfl ?aP (fun _ hk => hk.elim) ?aF ?aO ?aB ?aS ?aL ?_; (case aP => exact k65_mkM _ _ _ (⟨t940, t941, t942⟩ : S65)); (case aB => exact bwS); (case aF => exact (fun _ _ => trivial)); (case aO => exact (ra HO_3.out)); (case aS => exact (below_size bwS)); (case aL => have := LMc30.out; omega); intro v944 w33 ho hb hg hat; rw [← Ny943.out] at ho; have n0_ := Aside0.mk (Kd.Q_over' (by (with_reducible repeat (first | apply Kd.Q_alloc | apply Kd.Q_drewN | apply Kd.Q_drew)); exact HO_4.out) (Kd.R_typed (ra HO_3.out)) (by decide) hg); have n1_ := Aside0.mk (blk_grown (g := gb926) (o := .cells #[.slice A0_0 l0_0.length c0_0, .string a0_1] 24 (0, 0)) bk hg (Kd.R_ne HO_3.out BK926.out (by decide))); have n2_ := Aside0.mk (hb); have n3_ := Aside0.mk (ho); clear HO_4; clear BK926; clear HB; clear HO_3; have HO_4 := n0_; have BK926 := n1_; have HB := n2_; have HO945 := n3_; clear n0_ n1_ n2_ n3_; clear ho hb hg hat))
        go_meet
        case rel => exact ⟨_, (y943), H', ⟨by have := HJ3.out; have := HJ16.out; first | omega | exact Nat.le_refl _⟩, ⟨ra HO945.out⟩, ⟨bk⟩, ⟨bwS⟩⟩
       rw [if_neg c30] at H; exact absurd H (by simp)
      replace c28 := Bool.eq_false_iff.mpr c28; subst c28; rw [if_neg nft] at H; have H' := Aside0.mk H; clear H
      go_wp2
      go_meet
      case rel => exact ⟨_, (([] : List (S65))), H', ⟨by have := HJ3.out; have := HJ16.out; first | omega | exact Nat.le_refl _⟩, ⟨ra HO_3.out⟩, ⟨bk⟩, ⟨bwS⟩⟩
     case rest =>
      clear HC27
      try clear c1
      try clear q1
      try clear c2
      try clear p2
      try clear c3
      try clear c5
      try clear c6
      try clear c9
      try clear c9b0
      try clear c9b1
      try clear p9
      try clear q9
      try clear hx9
      try clear qi9
      try clear c10
      try clear c10b0
      try clear c10b1
      try clear c11
      try clear c11b0
      try clear c11b1
      try clear c12
      try clear c12b0
      try clear c12b1
      try clear c14
      try clear q14
      try clear c18
      try clear c18b0
      try clear c18b1
      try clear c19
      try clear c19b0
      try clear c19b1
      try clear c21
      try clear c28
      try clear c29
      try clear c30
      try clear hcz6_0
      try clear hcz6_1
      try clear hfz6_0
      try clear hfz6_1
      try clear hx931_0
      try clear hx935_0
      try clear p2
      try clear p9
      try clear p931
      try clear p935
      try clear q1
      try clear q14
      try clear q9
      try clear q931
      try clear q935
      obtain ⟨kq, x3_26, HA, HJ26, HO_3, BK926, HB⟩ := hcut; cases kq with
      | zero => exact absurd HA.out (by simp [bulletinref35_Read.j3])
      | succ kj26 =>
       have H := HA.out; clear HA; simp only [bulletinref35_Read.j3] at H; replace H := Option.bind_eq_some_iff.mp H; obtain ⟨t946, A340, H⟩ := H; have A34 := Aside0.mk A340; clear A340; have H' := Aside0.mk H; clear H; obtain ⟨hcz35_0, hcz35_1, hfz35_0, hfz35_1⟩ := bk2 BK926.out
       go_wp2_with (first | ((with_reducible refine gate_callee (f := 63) rfl ?_); refine goesL_ (some 45) rfl rfl Tryz.func63 (by kernel_rfl) rfl #[.agg #[.slice A0_0 l0_0.length c0_0, .string a0_1]] rfl am ?_; (with_reducible refine (bulletinref16_Lines.calls kj26 _ _ l0_0 a0_1 t946 _ ?side1 ?side2 A34.out).mono ?_); (case side1 => repeat (first | exact (Kd.C_below HR0_0.out HB.out) | (with_reducible refine Kd.C_alloc ?_ _) | (with_reducible refine Kd.C_drewN ?_ _) | (with_reducible refine Kd.C_drew ?_))); (case side2 => exact HC0_0.out); rintro e w36 ⟨v947, rfl, ho0, hb⟩; refine ⟨_, rfl, ?_⟩; have n0_ := Aside0.mk (Kd.R_below (ra HO_3.out) hb); have n1_ := Aside0.mk (Kd.R_lower ho0 (below_size bwS)); have n2_ := Aside0.mk (blk_below (g := gb926) (o := .cells #[.slice A0_0 l0_0.length c0_0, .string a0_1] 24 (0, 0)) bk hb); have n3_ := Aside0.mk (below_step bwS hb); clear HO_3; clear BK926; clear HB; have HO_3 := n0_; have HO948 := n1_; have BK926 := n2_; have HB := n3_; clear n0_ n1_ n2_ n3_; (try clear hb); (try clear hb2); (try clear hk); (try clear hi); (try clear ho0)))
       go_loopg [3, 6, 7] kj26 (fun kq v3 v6 v7 w' => ∃ (x3_4 : List (S65)) (x6_4 : Int) (x7_4 : Int), v6 = .int .i64 x6_4 ∧ v7 = .int .i64 x7_4 ∧ Aside0 (bulletinref35_Read.l1 kq x3_4 t946 x6_4 x7_4 = some r) ∧ Aside0 (kq ≤ kj26) ∧ Aside0 (Kd.R k65 65 w' w.heap.size (fun _ => True) v3 x3_4) ∧ Aside0 (Kd.R Kd.string 9 w' w.heap.size (fun _ => True) v947 t946) ∧ Aside0 (w'.heap[gb926]? = some (.cells #[(.slice A0_0 l0_0.length c0_0), .string a0_1] 24 (0, 0))) ∧ Aside0 (Below w.heap.size w w'))
       case atStart => exact ⟨(x3_26), (0), (0), cl, cl, H', ⟨Nat.le_refl _⟩, ⟨ra HO_3.out⟩, ⟨ra HO948.out⟩, ⟨bk⟩, ⟨bwS⟩⟩
       case round =>
        clear H'
        try clear c1
        try clear q1
        try clear c2
        try clear p2
        try clear c3
        try clear c5
        try clear c6
        try clear c9
        try clear c9b0
        try clear c9b1
        try clear p9
        try clear q9
        try clear hx9
        try clear qi9
        try clear c10
        try clear c10b0
        try clear c10b1
        try clear c11
        try clear c11b0
        try clear c11b1
        try clear c12
        try clear c12b0
        try clear c12b1
        try clear c14
        try clear q14
        try clear c18
        try clear c18b0
        try clear c18b1
        try clear c19
        try clear c19b0
        try clear c19b1
        try clear c21
        try clear c28
        try clear c29
        try clear c30
        try clear hcz35_0
        try clear hcz35_1
        try clear hcz6_0
        try clear hcz6_1
        try clear hfz35_0
        try clear hfz35_1
        try clear hfz6_0
        try clear hfz6_1
        try clear hx931_0
        try clear hx935_0
        try clear p2
        try clear p9
        try clear p931
        try clear p935
        try clear q1
        try clear q14
        try clear q9
        try clear q931
        try clear q935
        obtain ⟨x3_4, x6_4, x7_4, rfl, rfl, HA, HK4, HO_3, HO_5, BK926, HB⟩ := hrel; cases gk with
        | zero => exact absurd HA.out (by simp [bulletinref35_Read.l1])
        | succ k4 =>
         have H := HA.out; clear HA; simp only [bulletinref35_Read.l1] at H; have HC37 := Aside0.mk H; clear H
         go_upto_region 10 with (fail)
         go_cut [58] (fun v58 wc => ∃ (kq : Nat) (x58_36 : Bool), v58 = .bool x58_36 ∧ Aside0 (bulletinref35_Read.j5 kq x3_4 t946 x6_4 x7_4 x58_36 = some r) ∧ Aside0 (kq ≤ k4) ∧ Aside0 (Kd.R k65 65 wc w.heap.size (fun _ => True) u3 x3_4) ∧ Aside0 (Kd.R Kd.string 9 wc w.heap.size (fun _ => True) v947 t946) ∧ Aside0 (wc.heap[gb926]? = some (.cells #[(.slice A0_0 l0_0.length c0_0), .string a0_1] 24 (0, 0))) ∧ Aside0 (Below w.heap.size w wc))
         case first =>
          have H := HC37.out; clear HC37
          by_cases c38 : x7_4 < (t946.length : Int)
          ·rw [if_pos c38] at H; have c38b0 := decide_eq_true c38; clear c38
           (first | rw [c38b0] | (simp only [i64_w, i32_w]; rw [c38b0]) | skip)
           by_cases c39 : (x3_4.length : Int) < 8
           ·rw [if_pos c39] at H; have c39b0 := decide_eq_true c39; have c39b1 : decide (x3_4.length < 8) = true := decide_eq_true (by omega); clear c39; have H' := Aside0.mk H; clear H; obtain ⟨Ao40, co40, eo40⟩ := Kd.R_slice HO_5.out; subst eo40; obtain ⟨Ao41, co41, eo41⟩ := Kd.R_slice HO_3.out; subst eo41
            go_wp2
            go_meet
            case rel => exact ⟨_, (decide (x6_4 < 3)), cl, H', ⟨by have := HJ3.out; have := HJ16.out; have := HJ26.out; have := HK4.out; first | omega | exact Nat.le_refl _⟩, ⟨ra HO_3.out⟩, ⟨ra HO_5.out⟩, ⟨bk⟩, ⟨bwS⟩⟩
           rw [if_neg c39] at H; have c39b0 := decide_eq_false c39; have c39b1 : decide (x3_4.length < 8) = false := decide_eq_false (by omega); clear c39; have H' := Aside0.mk H; clear H; obtain ⟨Ao42, co42, eo42⟩ := Kd.R_slice HO_5.out; subst eo42; obtain ⟨Ao43, co43, eo43⟩ := Kd.R_slice HO_3.out; subst eo43
           go_wp2
           go_meet
           case rel => exact ⟨_, (false), cl, H', ⟨by have := HJ3.out; have := HJ16.out; have := HJ26.out; have := HK4.out; first | omega | exact Nat.le_refl _⟩, ⟨ra HO_3.out⟩, ⟨ra HO_5.out⟩, ⟨bk⟩, ⟨bwS⟩⟩
          rw [if_neg c38] at H; have c38b0 := decide_eq_false c38; clear c38
          (first | rw [c38b0] | (simp only [i64_w, i32_w]; rw [c38b0]) | skip)
          have H' := Aside0.mk H; clear H; obtain ⟨Ao44, co44, eo44⟩ := Kd.R_slice HO_5.out; subst eo44
          go_wp2
          go_meet
          case rel => exact ⟨_, (false), cl, H', ⟨by have := HJ3.out; have := HJ16.out; have := HJ26.out; have := HK4.out; first | omega | exact Nat.le_refl _⟩, ⟨ra HO_3.out⟩, ⟨ra HO_5.out⟩, ⟨bk⟩, ⟨bwS⟩⟩
         case rest =>
          clear HC37
          try clear c1
          try clear q1
          try clear c2
          try clear p2
          try clear c3
          try clear c5
          try clear c6
          try clear c9
          try clear c9b0
          try clear c9b1
          try clear p9
          try clear q9
          try clear hx9
          try clear qi9
          try clear c10
          try clear c10b0
          try clear c10b1
          try clear c11
          try clear c11b0
          try clear c11b1
          try clear c12
          try clear c12b0
          try clear c12b1
          try clear c14
          try clear q14
          try clear c18
          try clear c18b0
          try clear c18b1
          try clear c19
          try clear c19b0
          try clear c19b1
          try clear c21
          try clear c28
          try clear c29
          try clear c30
          try clear c38
          try clear c38b0
          try clear c39
          try clear c39b0
          try clear c39b1
          try clear hcz35_0
          try clear hcz35_1
          try clear hcz6_0
          try clear hcz6_1
          try clear hfz35_0
          try clear hfz35_1
          try clear hfz6_0
          try clear hfz6_1
          try clear hx931_0
          try clear hx935_0
          try clear p2
          try clear p9
          try clear p931
          try clear p935
          try clear q1
          try clear q14
          try clear q9
          try clear q931
          try clear q935
          obtain ⟨kq, x58_36, rfl, HA, HJ36, HO_3, HO_5, BK926, HB⟩ := hcut; cases kq with
          | zero => exact absurd HA.out (by simp [bulletinref35_Read.j5])
          | succ kj36 =>
           have H := HA.out; clear HA; simp only [bulletinref35_Read.j5] at H
           by_cases c45 : x58_36 = true
           ·subst c45; rw [if_pos rfl] at H
            by_cases c46 : 0 ≤ x7_4
            ·rw [if_pos c46] at H; have c46b0 := decide_eq_true c46; clear c46
             by_cases c47 : x7_4 < (t946.length : Int)
             ·rw [if_pos c47] at H; have c47b0 := decide_eq_true c47; clear c47; replace H := Option.bind_eq_some_iff.mp H; obtain ⟨t950, A480, H⟩ := H; have A48 := Aside0.mk A480; clear A480; have HC49 := Aside0.mk H; clear H; obtain ⟨Ao50, co50, eo50⟩ := Kd.R_slice HO_5.out; subst eo50; have p949 : 0 ≤ (x7_4 : Int) := od; have q949 : x7_4 < (t946.length : Int) := od; obtain ⟨ad949, e949, hx949_0⟩ := Kd.at_string (Kd.R_reads' HO_5.out).2.2 x7_4 p949 q949; cases e949; replace p949 := eq_true p949; replace q949 := eq_true q949
              go_upto_region 13 with (first | ((with_reducible refine gate_callee (f := 59) rfl ?_); refine goesL_ (some 65) rfl rfl Tryz.func59 (by kernel_rfl) rfl #[.string (rdOf ByteArray.empty t946 x7_4)] rfl am ?_; (with_reducible refine (bulletinref35_Words.calls kj36 (rdOf ByteArray.empty t946 x7_4) t950 _ A48.out).mono ?_); rintro e w51 ⟨v951, rfl, ho0, hb⟩; refine ⟨_, rfl, ?_⟩; have n0_ := Aside0.mk (Kd.R_below (ra HO_3.out) hb); have n1_ := Aside0.mk (Kd.R_elder' (ra HO_5.out) (Kd.R_base ho0) hb); have n2_ := Aside0.mk (Kd.R_lower (Kd.R_new' ho0 (Kd.R_lt (ra HO_5.out))) (below_size bwS)); have n3_ := Aside0.mk (blk_below (g := gb926) (o := .cells #[.slice A0_0 l0_0.length c0_0, .string a0_1] 24 (0, 0)) bk hb); have n4_ := Aside0.mk (below_step bwS hb); clear HO_3; clear HO_5; clear BK926; clear HB; have HO_3 := n0_; have HO_5 := n1_; have HO952 := n2_; have BK926 := n3_; have HB := n4_; clear n0_ n1_ n2_ n3_ n4_; (try clear hb); (try clear hb2); (try clear hk); (try clear hi); (try clear ho0)))
              (try simp only [Act.put, List.setIfInBounds_toArray, List.set_cons_zero, List.set_cons_succ])
              go_cut [75] (fun v75 wc => ∃ (kq : Nat) (x75_48 : Bool), v75 = .bool x75_48 ∧ Aside0 (bulletinref35_Read.j6 kq x3_4 t950 t946 x6_4 x7_4 x75_48 = some r) ∧ Aside0 (kq ≤ kj36) ∧ Aside0 (Kd.R k65 65 wc w.heap.size (fun _ => True) u3 x3_4) ∧ Aside0 (Kd.Q Kd.string 9 wc w.heap.size (fun k_ => some k_ ≠ ((.slice (some ad949) t946.length co50) : Value).ownBlock) v951 t950) ∧ Aside0 (Kd.R Kd.string 9 wc w.heap.size (fun k_ => some k_ ≠ (v951 : Value).ownBlock) (.slice (some ad949) t946.length co50) t946) ∧ Aside0 (wc.heap[gb926]? = some (.cells #[(.slice A0_0 l0_0.length c0_0), .string a0_1] 24 (0, 0))) ∧ Aside0 (Below w.heap.size w wc))
              case first =>
               have H := HC49.out; clear HC49
               by_cases c52 : (t950.length : Int) = 0
               ·rw [if_pos c52] at H; have c52b0 := beq_iff_eq.mpr c52; have c52b1 := bne_eq_false_iff_eq.mpr c52; clear c52
                (first | rw [c52b0] | (simp only [i64_w, i32_w]; rw [c52b0]) | skip)
                have H' := Aside0.mk H; clear H; obtain ⟨Ao53, co53, eo53⟩ := Kd.R_slice HO952.out; subst eo53
                go_wp2
                go_meet
                case rel => exact ⟨_, (true), cl, H', ⟨by have := HJ3.out; have := HJ16.out; have := HJ26.out; have := HK4.out; have := HJ36.out; first | omega | exact Nat.le_refl _⟩, ⟨ra HO_3.out⟩, ⟨Kd.Q_of_R (ra (Kd.R_mono HO952.out (fun _ hk => hk.2)))⟩, ⟨ra (Kd.R_mono HO_5.out (fun _ hk => hk.2))⟩, ⟨bk⟩, ⟨bwS⟩⟩
               rw [if_neg c52] at H; have c52b0 := beq_eq_false_iff_ne.mpr c52; have c52b1 := bne_iff_ne.mpr c52; have c52b2 : ¬ (t950 = []) := fun h_ => c52 (by rw [h_]; rfl)
               (first | rw [c52b0] | (simp only [i64_w, i32_w]; rw [c52b0]) | skip)
               by_cases c54 : 0 < (t950.length : Int)
               ·rw [if_pos c54] at H; have c54b0 := decide_eq_true c54; have c54b1 : decide (0 < t950.length) = true := decide_eq_true (by omega); clear c54
                by_cases c55 : 0 < ((rdOf ByteArray.empty t950 0).size : Int)
                ·rw [if_pos c55] at H; have c55b0 := decide_eq_true c55; have c55b1 : decide (0 < (rdOf ByteArray.empty t950 0).size) = true := decide_eq_true (by omega); clear c55; have H' := Aside0.mk H; clear H; obtain ⟨Ao57, co57, eo57⟩ := Kd.R_slice HO952.out; subst eo57; have p953 : 0 ≤ (0 : Int) := (by omega)
                 have q953 : 0 < (t950.length : Int) := od; obtain ⟨ad953, e953, hx953_0⟩ := Kd.at_string (Kd.R_reads' HO952.out).2.2 0 p953 q953; cases e953; have qi953 : (0 < t950.length) = True := eq_true (by omega)
                 (try rw [show ((0 : Int)).toNat = 0 from rfl] at hx953_0)
                 (try rw [Addr.add_zero'] at hx953_0)
                 replace p953 := eq_true p953; replace q953 := eq_true q953; have p56 : 0 ≤ (0 : Int) := (by omega)
                 have q56 : 0 < (rdOf ByteArray.empty t950 0).size := (by have : (0 : Int) < ((rdOf ByteArray.empty t950 0).size : Int) := od; omega)
                 have hx56 : ∀ h : 0 < (rdOf ByteArray.empty t950 0).size, (((rdOf ByteArray.empty t950 0)[0]'h).toNat : Int) = bt (rdOf ByteArray.empty t950 0) 0 := bt_at (rdOf ByteArray.empty t950 0) 0; clear p56; have qi56 : (0 < ((rdOf ByteArray.empty t950 0).size : Int)) = True := eq_true (od); replace q56 := eq_true q56
                 go_wp2
                 go_meet
                 case rel => exact ⟨_, (((bt (rdOf ByteArray.empty t950 0) 0) == 62)), cl, H', ⟨by have := HJ3.out; have := HJ16.out; have := HJ26.out; have := HK4.out; have := HJ36.out; first | omega | exact Nat.le_refl _⟩, ⟨ra HO_3.out⟩, ⟨Kd.Q_of_R (ra (Kd.R_mono HO952.out (fun _ hk => hk.2)))⟩, ⟨ra (Kd.R_mono HO_5.out (fun _ hk => hk.2))⟩, ⟨bk⟩, ⟨bwS⟩⟩
                rw [if_neg c55] at H; exact absurd H (by simp)
               rw [if_neg c54] at H; exact absurd H (by simp)
              case rest =>
               clear HC49
               try clear c1
               try clear q1
               try clear c2
               try clear p2
               try clear c3
               try clear c4
               try clear c5
               try clear p5
               try clear q5
               try clear hx5
               try clear qi5
               try clear c6
               try clear c9
               try clear c9b0
               try clear c9b1
               try clear p9
               try clear q9
               try clear hx9
               try clear qi9
               try clear c10
               try clear c10b0
               try clear c10b1
               try clear c11
               try clear c11b0
               try clear c11b1
               try clear c12
               try clear c12b0
               try clear c12b1
               try clear c14
               try clear q14
               try clear c18
               try clear c18b0
               try clear c18b1
               try clear c19
               try clear c19b0
               try clear c19b1
               try clear c21
               try clear c28
               try clear c29
               try clear c30
               try clear c38
               try clear c38b0
               try clear c39
               try clear c39b0
               try clear c39b1
               try clear c45
               try clear c46
               try clear c46b0
               try clear c47
               try clear c47b0
               try clear c52
               try clear c52b0
               try clear c52b1
               try clear c52b2
               try clear c54
               try clear c54b0
               try clear c54b1
               try clear c55
               try clear c55b0
               try clear c55b1
               try clear p56
               try clear q56
               try clear hx56
               try clear qi56
               try clear hcz35_0
               try clear hcz35_1
               try clear hcz6_0
               try clear hcz6_1
               try clear hfz35_0
               try clear hfz35_1
               try clear hfz6_0
               try clear hfz6_1
               try clear hx931_0
               try clear hx935_0
               try clear hx949_0
               try clear hx953_0
               try clear p2
               try clear p56
               try clear p9
               try clear p931
               try clear p935
               try clear p949
               try clear p953
               try clear q1
               try clear q14
               try clear q56
               try clear q9
               try clear q931
               try clear q935
               try clear q949
               try clear q953
               obtain ⟨kq, x75_48, rfl, HA, HJ48, HO_3, HO_4, HO_5, BK926, HB⟩ := hcut; cases kq with
               | zero => exact absurd HA.out (by simp [bulletinref35_Read.j6])
               | succ kj48 =>
                have H := HA.out; clear HA; simp only [bulletinref35_Read.j6] at H
                by_cases c58 : x75_48 = true
                ·subst c58; rw [if_pos rfl] at H; have H' := Aside0.mk H; clear H
                 go_wp2
                 go_roundg kj48
                 case measure => have := HJ3.out; have := HJ16.out; have := HJ26.out; have := HK4.out; have := HJ36.out; have := HJ48.out; omega
                 case rel => exact ⟨(x3_4), (x6_4), (wrap64 (x7_4 + 1)), cl, cl, H', ⟨by have := HJ3.out; have := HJ16.out; have := HJ26.out; have := HK4.out; have := HJ36.out; have := HJ48.out; omega⟩, ⟨ra HO_3.out⟩, ⟨ra (Kd.R_mono HO_5.out (fun _ hk => trivial))⟩, ⟨bk⟩, ⟨bwS⟩⟩
                replace c58 := Bool.eq_false_iff.mpr c58; subst c58; rw [if_neg nft] at H
                by_cases c59 : 0 < (t950.length : Int)
                ·rw [if_pos c59] at H; have c59b0 := decide_eq_true c59; have c59b1 : decide (0 < t950.length) = true := decide_eq_true (by omega); clear c59; replace H := Option.bind_eq_some_iff.mp H; obtain ⟨t955, A600, H⟩ := H; have A60 := Aside0.mk A600; clear A600
                 by_cases c61 : t955 = true
                 ·subst c61; rw [if_pos rfl] at H; obtain rfl := Option.some.inj H; obtain ⟨Ao62, co62, eo62, _⟩ := Kd.Q_slice HO_4.out; subst eo62; have p954 : 0 ≤ (0 : Int) := (by omega)
                  have q954 : 0 < (t950.length : Int) := od; obtain ⟨ad954, e954, hx954_0⟩ := Kd.at_string (Kd.Q_reads' HO_4.out).2.2 0 p954 q954; cases e954; have qi954 : (0 < t950.length) = True := eq_true (by omega)
                  (try rw [show ((0 : Int)).toNat = 0 from rfl] at hx954_0)
                  (try rw [Addr.add_zero'] at hx954_0)
                  replace p954 := eq_true p954; replace q954 := eq_true q954
                  go_wp2_with (first | ((with_reducible refine gate_callee (f := 61) rfl ?_); refine goesL_ (some 79) rfl rfl Tryz.func61 (by kernel_rfl) rfl #[.string (rdOf ByteArray.empty t950 0)] rfl am ?_; (with_reducible refine (bulletinref35_stops.calls (rdOf ByteArray.empty t950 0) true _ A60.out).mono ?_); rintro e w' ⟨rfl, ⟨nd, rfl⟩⟩; refine ⟨_, rfl, ?_⟩))
                  go_ret
                  exact ⟨_, ew, ra HO_3.out, bwS⟩
                 replace c61 := Bool.eq_false_iff.mpr c61; subst c61; rw [if_neg nft] at H; replace H := Option.bind_eq_some_iff.mp H; obtain ⟨⟨t956, t957, t958⟩, A630, H⟩ := H; replace H : (if t956 = 5 then (if x3_4.length < 4398046511104 then (bulletinref35_Read.l1 kj48 (x3_4 ++ [(⟨t956, t957, t958⟩ : S65)]) t946 (wrap64 (x6_4 + 1)) (wrap64 (x7_4 + 1))) else (none)) else (if x3_4.length < 4398046511104 then (bulletinref35_Read.l1 kj48 (x3_4 ++ [(⟨t956, t957, t958⟩ : S65)]) t946 x6_4 (wrap64 (x7_4 + 1))) else (none))) = some r := H; have A63 := Aside0.mk A630; clear A630
                 by_cases c64 : t956 = 5
                 ·rw [if_pos c64] at H; have c64b0 := beq_iff_eq.mpr c64; have c64b1 := bne_eq_false_iff_eq.mpr c64; clear c64
                  by_cases c65 : x3_4.length < 4398046511104
                  ·rw [if_pos c65] at H; have LMc65 := Aside0.mk c65; clear c65; obtain ⟨y960, hy960⟩ : ∃ y_ : List (S65), y_ = (x3_4 ++ [(⟨t956, t957, t958⟩ : S65)]) := ⟨_, rfl⟩
                   replace H : (bulletinref35_Read.l1 kj48 y960 t946 (wrap64 (x6_4 + 1)) (wrap64 (x7_4 + 1))) = some r := by first | (rw [hy960]; with_reducible exact H) | (have H2_ := (Option.bind_some _ _).symm.trans H; rw [hy960]; with_reducible exact H2_) | (have H2_ := (Option.bind_some _ _).symm.trans H; with_reducible exact H2_) | with_reducible exact H | (rw [hy960]; exact H) | exact H
                   have Ny960 := Aside0.mk hy960; clear hy960; have H' := Aside0.mk H; clear H; obtain ⟨Ao66, co66, eo66, _⟩ := Kd.Q_slice HO_4.out; subst eo66; have p954 : 0 ≤ (0 : Int) := (by omega)
                   have q954 : 0 < (t950.length : Int) := od; obtain ⟨ad954, e954, hx954_0⟩ := Kd.at_string (Kd.Q_reads' HO_4.out).2.2 0 p954 q954; cases e954; have qi954 : (0 < t950.length) = True := eq_true (by omega)
                   (try rw [show ((0 : Int)).toNat = 0 from rfl] at hx954_0)
                   (try rw [Addr.add_zero'] at hx954_0)
                   replace p954 := eq_true p954; replace q954 := eq_true q954
                   go_wp2_with (first | ((with_reducible refine gate_callee (f := 61) rfl ?_); refine goesL_ (some 79) rfl rfl Tryz.func61 (by kernel_rfl) rfl #[.string (rdOf ByteArray.empty t950 0)] rfl am ?_; (with_reducible refine (bulletinref35_stops.calls (rdOf ByteArray.empty t950 0) false _ A60.out).mono ?_); rintro e w' ⟨rfl, ⟨nd, rfl⟩⟩; refine ⟨_, rfl, ?_⟩; (try (rw [drewN_self wc]; generalize hq_ : World.drewN wc _ = wc; have n0_ : Aside0 (Kd.R k65 65 wc w.heap.size (fun _ => True) u3 x3_4) := ⟨by rw [← hq_]; exact (ra HO_3.out)⟩; have n1_ : Aside0 (Kd.Q Kd.string 9 wc w.heap.size (fun k_ => some k_ ≠ (.slice (some ad949) t946.length co50 : Value).ownBlock) (.slice (some ad954) t950.length co66) t950) := ⟨by rw [← hq_]; exact (by (with_reducible repeat (first | apply Kd.Q_alloc | apply Kd.Q_drewN | apply Kd.Q_drew)); exact HO_4.out)⟩; have n2_ : Aside0 (Kd.R Kd.string 9 wc w.heap.size (fun k_ => some k_ ≠ (.slice (some ad954) t950.length co66 : Value).ownBlock) (.slice (some ad949) t946.length co50) t946) := ⟨by rw [← hq_]; exact (ra HO_5.out)⟩; have n3_ : Aside0 (wc.heap[gb926]? = some (.cells #[.slice A0_0 l0_0.length c0_0, .string a0_1] 24 (0, 0))) := ⟨by rw [← hq_]; exact bk⟩; have n4_ : Aside0 (Below w.heap.size w wc) := ⟨by rw [← hq_]; exact bwS⟩; clear HO_3 HO_4 HO_5 BK926 HB hq_; have HO_3 := n0_; have HO_4 := n1_; have HO_5 := n2_; have BK926 := n3_; have HB := n4_; clear n0_ n1_ n2_ n3_ n4_))) | ((with_reducible refine gate_callee (f := 62) rfl ?_); refine goesL_ (some 82) rfl rfl Tryz.func62 (by kernel_rfl) rfl #[.slice (some ad954) t950.length co66] rfl am ?_; (with_reducible refine (bulletinref35_Of.calls kj48 _ _ t950 t956 t957 t958 _ ?side1 ?side2 A63.out).mono ?_); (case side1 => repeat (first | exact (Kd.Q_reads' HO_4.out).2.2 | (with_reducible refine Kd.C_alloc ?_ _) | (with_reducible refine Kd.C_drewN ?_ _) | (with_reducible refine Kd.C_drew ?_))); (case side2 => exact (Kd.Q_reads' HO_4.out).2.1); rintro e w67 ⟨rfl, hb⟩; refine ⟨_, rfl, ?_⟩; have n0_ := Aside0.mk (Kd.R_below (ra HO_3.out) hb); have n1_ := Aside0.mk (Kd.Q_below (by (with_reducible repeat (first | apply Kd.Q_alloc | apply Kd.Q_drewN | apply Kd.Q_drew)); exact HO_4.out) hb); have n2_ := Aside0.mk (Kd.R_below (ra HO_5.out) hb); have n3_ := Aside0.mk (blk_below (g := gb926) (o := .cells #[.slice A0_0 l0_0.length c0_0, .string a0_1] 24 (0, 0)) bk hb); have n4_ := Aside0.mk (below_step bwS hb); clear HO_3; clear HO_4; clear HO_5; clear BK926; clear HB; have HO_3 := n0_; have HO_4 := n1_; have HO_5 := n2_; have BK926 := n3_; have HB := n4_; clear n0_ n1_ n2_ n3_ n4_; (try clear hb); (try clear hb2); (try clear hk); (try clear hi)) | ((with_reducible refine gate_dst (N := 8) rfl ?_); (try (refine gate_guard (by rfl) ?_; dsimp only)); refine box_event ?hg (N := 8) ?hd (cs := #[.int .i64 0, .int .i64 0, .string (⟨#[]⟩ : ByteArray)]) (t := 65) ?hr ?_; (case hd => rfl); (case hg => rfl); (case hr => first | (go_simp; done) | (go_simp; rfl)); intro gb959 hg w68 hbox hb; have n0_ := Aside0.mk (Kd.R_below (Kd.R_elderB (ra HO_3.out) gb959 (Nat.le_of_eq hg.symm)) hb); have n1_ := Aside0.mk (Kd.Q_below (by (with_reducible repeat (first | apply Kd.Q_alloc | apply Kd.Q_drewN | apply Kd.Q_drew)); exact HO_4.out) hb); have n2_ := Aside0.mk (Kd.R_below (ra HO_5.out) hb); have n3_ := Aside0.mk (blk_below (g := gb926) (o := .cells #[.slice A0_0 l0_0.length c0_0, .string a0_1] 24 (0, 0)) bk hb); have n4_ := Aside0.mk (below_step bwS hb); have n5_ := Aside0.mk (hbox); have n6_ := Aside0.mk ((by rw [hg]; exact (below_size bwS) : w.heap.size ≤ gb959)); have n7_ := Aside0.mk ((by rw [hg]; exact (below_size bwS) : w.heap.size ≤ gb959)); have n8_ := Aside0.mk ((by rw [hg]; exact Nat.ne_of_lt (blk_lt (g := gb926) (o := .cells #[.slice A0_0 l0_0.length c0_0, .string a0_1] 24 (0, 0)) bk) : gb926 ≠ gb959)); have n9_ := Aside0.mk ((by rw [hg]; exact Nat.ne_of_gt (blk_lt (g := gb926) (o := .cells #[.slice A0_0 l0_0.length c0_0, .string a0_1] 24 (0, 0)) bk) : gb959 ≠ gb926)); clear HO_3; clear HO_4; clear HO_5; clear BK926; clear HB; have HO_3 := n0_; have HO_4 := n1_; have HO_5 := n2_; have BK926 := n3_; have HB := n4_; have BK959 := n5_; have GW959 := n6_; have GE959 := n7_; have NB926_959 := n8_; have NB959_926 := n9_; clear n0_ n1_ n2_ n3_ n4_ n5_ n6_ n7_ n8_ n9_; clear hb hbox hg; have hnb69 := NB959_926.out; have hnc69 := NB926_959.out; have hcz70_0 : w68.cell? ⟨gb959, 0, none⟩ = some (.int .i64 0) := (blk_cell BK959.out 0).trans rfl; have hcz70_1 : w68.cell? ⟨gb959, 1, none⟩ = some (.int .i64 0) := (blk_cell BK959.out 1).trans rfl; have hcz70_2 : w68.cell? ⟨gb959, 2, none⟩ = some (.string (⟨#[]⟩ : ByteArray)) := (blk_cell BK959.out 2).trans rfl; have hfz70_0 := blk_frozen BK959.out 0; have hfz70_1 := blk_frozen BK959.out 1; have hfz70_2 := blk_frozen BK959.out 2) | ((with_reducible refine gate_builtin (b := .append) (xs := #[.tmp 88, .tmp 90]) rfl ?_); (try (refine gate_guard (by rfl) ?_; dsimp only)); at_builtin; refine Kd.R_append k65 (w0 := w) w.heap.size rfl (.tmp 88) (.tmp 90) 60 65 (.agg #[(.int .i64 0), (.int .i64 0), (.string ⟨#[]⟩)]) 32 rfl Tryz.underlying60 info65 rfl (by decide) (by omega) u3 x3_4 (⟨t956, t957, t958⟩ : S65) [.int .i64 t956, .int .i64 t957, .string t958] (fun k_ => k_ ≠ gb959) (fun _ => False) rfl (by first | (go_simp; done) | (go_simp; rfl)) ?aP (fun _ hk => hk.elim) ?aF ?aO ?aB ?aS ?aL ?_; (case aP => exact k65_mkM _ _ _ (⟨t956, t957, t958⟩ : S65)); (case aB => exact bwS); (case aF => exact (fun k_ hk => Kd.freshB (g := gb959) (o := .cells #[.int .i64 t956, .int .i64 t957, .string t958] 65 (0, 0)) (by (with_reducible repeat (first | refine blk_drewN ?_ _ | refine blk_drew ?_ | refine blk_alloc ?_ _)); refine blk_put (cs := #[.int .i64 t956, .int .i64 t957, .string (⟨#[]⟩ : ByteArray)]) ?_ 2 _ rfl; (with_reducible repeat (first | refine blk_drewN ?_ _ | refine blk_drew ?_ | refine blk_alloc ?_ _)); refine blk_put (cs := #[.int .i64 t956, .int .i64 0, .string (⟨#[]⟩ : ByteArray)]) ?_ 1 _ rfl; (with_reducible repeat (first | refine blk_drewN ?_ _ | refine blk_drew ?_ | refine blk_alloc ?_ _)); exact blk_put (cs := #[.int .i64 0, .int .i64 0, .string (⟨#[]⟩ : ByteArray)]) bk 0 _ rfl) k_ hk)); (case aO => exact (ra (Kd.R_mono (Kd.R_far (p := ⟨gb959, 2, none⟩) (Kd.R_far (p := ⟨gb959, 1, none⟩) (Kd.R_far (p := ⟨gb959, 0, none⟩) (Kd.R_mono HO_3.out (fun k_ hk => (⟨hk, hk.2⟩ : _ ∧ k_ ≠ gb959))) (fun _ hk => hk.2) (.int .i64 t956)) (fun _ hk => hk.2) (.int .i64 t957)) (fun _ hk => hk.2) (.string t958)) (fun _ hk => hk.1.2)))); (case aS => exact (below_size bwS)); (case aL => have := LMc65.out; omega); intro v961 w71 ho hb hg hat; rw [← Ny960.out] at ho; have n0_ := Aside0.mk (Kd.Q_over' (by (with_reducible repeat (first | apply Kd.Q_alloc | apply Kd.Q_drewN | apply Kd.Q_drew)); exact (Kd.Q_mono (Kd.Q_far (p := ⟨gb959, 2, none⟩) (Kd.Q_far (p := ⟨gb959, 1, none⟩) (Kd.Q_far (p := ⟨gb959, 0, none⟩) (Kd.Q_types HO_4.out BK959.out (by decide)) (fun _ hk => hk.2) (.int .i64 t956)) (fun _ hk => hk.2) (.int .i64 t957)) (fun _ hk => hk.2) (.string t958)) (fun _ h_ => h_.1))) (Kd.R_typed (ra ((Kd.R_mono (Kd.R_far (p := ⟨gb959, 2, none⟩) (Kd.R_far (p := ⟨gb959, 1, none⟩) (Kd.R_far (p := ⟨gb959, 0, none⟩) (Kd.R_mono HO_3.out (fun k_ hk => (⟨hk, hk.2⟩ : _ ∧ k_ ≠ gb959))) (fun _ hk => hk.2) (.int .i64 t956)) (fun _ hk => hk.2) (.int .i64 t957)) (fun _ hk => hk.2) (.string t958)) (fun _ h_ => h_.1))))) (by decide) hg); have n1_ := Aside0.mk (Kd.R_over' (by (with_reducible repeat (first | apply Kd.R_alloc | apply Kd.R_drewN | apply Kd.R_drew)); exact (Kd.R_mono (Kd.R_far (p := ⟨gb959, 2, none⟩) (Kd.R_far (p := ⟨gb959, 1, none⟩) (Kd.R_far (p := ⟨gb959, 0, none⟩) (Kd.R_types HO_5.out BK959.out (by decide)) (fun _ hk => hk.2) (.int .i64 t956)) (fun _ hk => hk.2) (.int .i64 t957)) (fun _ hk => hk.2) (.string t958)) (fun _ h_ => h_.1))) (Kd.R_typed (ra ((Kd.R_mono (Kd.R_far (p := ⟨gb959, 2, none⟩) (Kd.R_far (p := ⟨gb959, 1, none⟩) (Kd.R_far (p := ⟨gb959, 0, none⟩) (Kd.R_mono HO_3.out (fun k_ hk => (⟨hk, hk.2⟩ : _ ∧ k_ ≠ gb959))) (fun _ hk => hk.2) (.int .i64 t956)) (fun _ hk => hk.2) (.int .i64 t957)) (fun _ hk => hk.2) (.string t958)) (fun _ h_ => h_.1))))) (by decide) hg); have n2_ := Aside0.mk (blk_grown (g := gb926) (o := .cells #[.slice A0_0 l0_0.length c0_0, .string a0_1] 24 (0, 0)) (by (with_reducible repeat (first | refine blk_drewN ?_ _ | refine blk_drew ?_ | refine blk_alloc ?_ _)); refine blk_far ?_ NB926_959.out _; (with_reducible repeat (first | refine blk_drewN ?_ _ | refine blk_drew ?_ | refine blk_alloc ?_ _)); refine blk_far ?_ NB926_959.out _; (with_reducible repeat (first | refine blk_drewN ?_ _ | refine blk_drew ?_ | refine blk_alloc ?_ _)); refine blk_far ?_ NB926_959.out _; (with_reducible repeat (first | refine blk_drewN ?_ _ | refine blk_drew ?_ | refine blk_alloc ?_ _)); exact BK926.out) hg (Kd.R_ne HO_3.out BK926.out (by decide))); have n3_ := Aside0.mk (blk_grown (g := gb959) (o := .cells #[.int .i64 t956, .int .i64 t957, .string t958] 65 (0, 0)) (by (with_reducible repeat (first | refine blk_drewN ?_ _ | refine blk_drew ?_ | refine blk_alloc ?_ _)); refine blk_put (cs := #[.int .i64 t956, .int .i64 t957, .string (⟨#[]⟩ : ByteArray)]) ?_ 2 _ rfl; (with_reducible repeat (first | refine blk_drewN ?_ _ | refine blk_drew ?_ | refine blk_alloc ?_ _)); refine blk_put (cs := #[.int .i64 t956, .int .i64 0, .string (⟨#[]⟩ : ByteArray)]) ?_ 1 _ rfl; (with_reducible repeat (first | refine blk_drewN ?_ _ | refine blk_drew ?_ | refine blk_alloc ?_ _)); exact blk_put (cs := #[.int .i64 0, .int .i64 0, .string (⟨#[]⟩ : ByteArray)]) bk 0 _ rfl) hg (Kd.R_away HO_3.out (fun _ hk => hk.2))); have n4_ := Aside0.mk (hb); have n5_ := Aside0.mk (ho); clear HO_4; clear HO_5; clear BK926; clear BK959; clear HB; clear HO_3; have HO_4 := n0_; have HO_5 := n1_; have BK926 := n2_; have BK959 := n3_; have HB := n4_; have HO962 := n5_; clear n0_ n1_ n2_ n3_ n4_ n5_; clear ho hb hg hat))
                   go_roundg kj48
                   case measure => have := HJ3.out; have := HJ16.out; have := HJ26.out; have := HK4.out; have := HJ36.out; have := HJ48.out; omega
                   case rel => exact ⟨(y960), (wrap64 (x6_4 + 1)), (wrap64 (x7_4 + 1)), cl, cl, H', ⟨by have := HJ3.out; have := HJ16.out; have := HJ26.out; have := HK4.out; have := HJ36.out; have := HJ48.out; omega⟩, ⟨ra (Kd.R_mono HO962.out (fun _ hk => trivial))⟩, ⟨ra (Kd.R_mono HO_5.out (fun _ hk => trivial))⟩, ⟨bk⟩, ⟨bwS⟩⟩
                  rw [if_neg c65] at H; exact absurd H (by simp)
                 rw [if_neg c64] at H; have c64b0 := beq_eq_false_iff_ne.mpr c64; have c64b1 := bne_iff_ne.mpr c64
                 by_cases c72 : x3_4.length < 4398046511104
                 ·rw [if_pos c72] at H; have LMc72 := Aside0.mk c72; clear c72; obtain ⟨y963, hy963⟩ : ∃ y_ : List (S65), y_ = (x3_4 ++ [(⟨t956, t957, t958⟩ : S65)]) := ⟨_, rfl⟩
                  replace H : (bulletinref35_Read.l1 kj48 y963 t946 x6_4 (wrap64 (x7_4 + 1))) = some r := by first | (rw [hy963]; with_reducible exact H) | (have H2_ := (Option.bind_some _ _).symm.trans H; rw [hy963]; with_reducible exact H2_) | (have H2_ := (Option.bind_some _ _).symm.trans H; with_reducible exact H2_) | with_reducible exact H | (rw [hy963]; exact H) | exact H
                  have Ny963 := Aside0.mk hy963; clear hy963; have H' := Aside0.mk H; clear H; obtain ⟨Ao73, co73, eo73, _⟩ := Kd.Q_slice HO_4.out; subst eo73; have p954 : 0 ≤ (0 : Int) := (by omega)
                  have q954 : 0 < (t950.length : Int) := od; obtain ⟨ad954, e954, hx954_0⟩ := Kd.at_string (Kd.Q_reads' HO_4.out).2.2 0 p954 q954; cases e954; have qi954 : (0 < t950.length) = True := eq_true (by omega)
                  (try rw [show ((0 : Int)).toNat = 0 from rfl] at hx954_0)
                  (try rw [Addr.add_zero'] at hx954_0)
                  replace p954 := eq_true p954; replace q954 := eq_true q954
                  go_wp2_with (first | ((with_reducible refine gate_callee (f := 61) rfl ?_); refine goesL_ (some 79) rfl rfl Tryz.func61 (by kernel_rfl) rfl #[.string (rdOf ByteArray.empty t950 0)] rfl am ?_; (with_reducible refine (bulletinref35_stops.calls (rdOf ByteArray.empty t950 0) false _ A60.out).mono ?_); rintro e w' ⟨rfl, ⟨nd, rfl⟩⟩; refine ⟨_, rfl, ?_⟩; (try (rw [drewN_self wc]; generalize hq_ : World.drewN wc _ = wc; have n0_ : Aside0 (Kd.R k65 65 wc w.heap.size (fun _ => True) u3 x3_4) := ⟨by rw [← hq_]; exact (ra HO_3.out)⟩; have n1_ : Aside0 (Kd.Q Kd.string 9 wc w.heap.size (fun k_ => some k_ ≠ (.slice (some ad949) t946.length co50 : Value).ownBlock) (.slice (some ad954) t950.length co73) t950) := ⟨by rw [← hq_]; exact (by (with_reducible repeat (first | apply Kd.Q_alloc | apply Kd.Q_drewN | apply Kd.Q_drew)); exact HO_4.out)⟩; have n2_ : Aside0 (Kd.R Kd.string 9 wc w.heap.size (fun k_ => some k_ ≠ (.slice (some ad954) t950.length co73 : Value).ownBlock) (.slice (some ad949) t946.length co50) t946) := ⟨by rw [← hq_]; exact (ra HO_5.out)⟩; have n3_ : Aside0 (wc.heap[gb926]? = some (.cells #[.slice A0_0 l0_0.length c0_0, .string a0_1] 24 (0, 0))) := ⟨by rw [← hq_]; exact bk⟩; have n4_ : Aside0 (Below w.heap.size w wc) := ⟨by rw [← hq_]; exact bwS⟩; clear HO_3 HO_4 HO_5 BK926 HB hq_; have HO_3 := n0_; have HO_4 := n1_; have HO_5 := n2_; have BK926 := n3_; have HB := n4_; clear n0_ n1_ n2_ n3_ n4_))) | ((with_reducible refine gate_callee (f := 62) rfl ?_); refine goesL_ (some 82) rfl rfl Tryz.func62 (by kernel_rfl) rfl #[.slice (some ad954) t950.length co73] rfl am ?_; (with_reducible refine (bulletinref35_Of.calls kj48 _ _ t950 t956 t957 t958 _ ?side1 ?side2 A63.out).mono ?_); (case side1 => repeat (first | exact (Kd.Q_reads' HO_4.out).2.2 | (with_reducible refine Kd.C_alloc ?_ _) | (with_reducible refine Kd.C_drewN ?_ _) | (with_reducible refine Kd.C_drew ?_))); (case side2 => exact (Kd.Q_reads' HO_4.out).2.1); rintro e w74 ⟨rfl, hb⟩; refine ⟨_, rfl, ?_⟩; have n0_ := Aside0.mk (Kd.R_below (ra HO_3.out) hb); have n1_ := Aside0.mk (Kd.Q_below (by (with_reducible repeat (first | apply Kd.Q_alloc | apply Kd.Q_drewN | apply Kd.Q_drew)); exact HO_4.out) hb); have n2_ := Aside0.mk (Kd.R_below (ra HO_5.out) hb); have n3_ := Aside0.mk (blk_below (g := gb926) (o := .cells #[.slice A0_0 l0_0.length c0_0, .string a0_1] 24 (0, 0)) bk hb); have n4_ := Aside0.mk (below_step bwS hb); clear HO_3; clear HO_4; clear HO_5; clear BK926; clear HB; have HO_3 := n0_; have HO_4 := n1_; have HO_5 := n2_; have BK926 := n3_; have HB := n4_; clear n0_ n1_ n2_ n3_ n4_; (try clear hb); (try clear hb2); (try clear hk); (try clear hi)) | ((with_reducible refine gate_dst (N := 8) rfl ?_); (try (refine gate_guard (by rfl) ?_; dsimp only)); refine box_event ?hg (N := 8) ?hd (cs := #[.int .i64 0, .int .i64 0, .string (⟨#[]⟩ : ByteArray)]) (t := 65) ?hr ?_; (case hd => rfl); (case hg => rfl); (case hr => first | (go_simp; done) | (go_simp; rfl)); intro gb959 hg w75 hbox hb; have n0_ := Aside0.mk (Kd.R_below (Kd.R_elderB (ra HO_3.out) gb959 (Nat.le_of_eq hg.symm)) hb); have n1_ := Aside0.mk (Kd.Q_below (by (with_reducible repeat (first | apply Kd.Q_alloc | apply Kd.Q_drewN | apply Kd.Q_drew)); exact HO_4.out) hb); have n2_ := Aside0.mk (Kd.R_below (ra HO_5.out) hb); have n3_ := Aside0.mk (blk_below (g := gb926) (o := .cells #[.slice A0_0 l0_0.length c0_0, .string a0_1] 24 (0, 0)) bk hb); have n4_ := Aside0.mk (below_step bwS hb); have n5_ := Aside0.mk (hbox); have n6_ := Aside0.mk ((by rw [hg]; exact (below_size bwS) : w.heap.size ≤ gb959)); have n7_ := Aside0.mk ((by rw [hg]; exact (below_size bwS) : w.heap.size ≤ gb959)); have n8_ := Aside0.mk ((by rw [hg]; exact Nat.ne_of_lt (blk_lt (g := gb926) (o := .cells #[.slice A0_0 l0_0.length c0_0, .string a0_1] 24 (0, 0)) bk) : gb926 ≠ gb959)); have n9_ := Aside0.mk ((by rw [hg]; exact Nat.ne_of_gt (blk_lt (g := gb926) (o := .cells #[.slice A0_0 l0_0.length c0_0, .string a0_1] 24 (0, 0)) bk) : gb959 ≠ gb926)); clear HO_3; clear HO_4; clear HO_5; clear BK926; clear HB; have HO_3 := n0_; have HO_4 := n1_; have HO_5 := n2_; have BK926 := n3_; have HB := n4_; have BK959 := n5_; have GW959 := n6_; have GE959 := n7_; have NB926_959 := n8_; have NB959_926 := n9_; clear n0_ n1_ n2_ n3_ n4_ n5_ n6_ n7_ n8_ n9_; clear hb hbox hg; have hnb76 := NB959_926.out; have hnc76 := NB926_959.out; have hcz77_0 : w75.cell? ⟨gb959, 0, none⟩ = some (.int .i64 0) := (blk_cell BK959.out 0).trans rfl; have hcz77_1 : w75.cell? ⟨gb959, 1, none⟩ = some (.int .i64 0) := (blk_cell BK959.out 1).trans rfl; have hcz77_2 : w75.cell? ⟨gb959, 2, none⟩ = some (.string (⟨#[]⟩ : ByteArray)) := (blk_cell BK959.out 2).trans rfl; have hfz77_0 := blk_frozen BK959.out 0; have hfz77_1 := blk_frozen BK959.out 1; have hfz77_2 := blk_frozen BK959.out 2) | ((with_reducible refine gate_builtin (b := .append) (xs := #[.tmp 88, .tmp 90]) rfl ?_); (try (refine gate_guard (by rfl) ?_; dsimp only)); at_builtin; refine Kd.R_append k65 (w0 := w) w.heap.size rfl (.tmp 88) (.tmp 90) 60 65 (.agg #[(.int .i64 0), (.int .i64 0), (.string ⟨#[]⟩)]) 32 rfl Tryz.underlying60 info65 rfl (by decide) (by omega) u3 x3_4 (⟨t956, t957, t958⟩ : S65) [.int .i64 t956, .int .i64 t957, .string t958] (fun k_ => k_ ≠ gb959) (fun _ => False) rfl (by first | (go_simp; done) | (go_simp; rfl)) ?aP (fun _ hk => hk.elim) ?aF ?aO ?aB ?aS ?aL ?_; (case aP => exact k65_mkM _ _ _ (⟨t956, t957, t958⟩ : S65)); (case aB => exact bwS); (case aF => exact (fun k_ hk => Kd.freshB (g := gb959) (o := .cells #[.int .i64 t956, .int .i64 t957, .string t958] 65 (0, 0)) (by (with_reducible repeat (first | refine blk_drewN ?_ _ | refine blk_drew ?_ | refine blk_alloc ?_ _)); refine blk_put (cs := #[.int .i64 t956, .int .i64 t957, .string (⟨#[]⟩ : ByteArray)]) ?_ 2 _ rfl; (with_reducible repeat (first | refine blk_drewN ?_ _ | refine blk_drew ?_ | refine blk_alloc ?_ _)); refine blk_put (cs := #[.int .i64 t956, .int .i64 0, .string (⟨#[]⟩ : ByteArray)]) ?_ 1 _ rfl; (with_reducible repeat (first | refine blk_drewN ?_ _ | refine blk_drew ?_ | refine blk_alloc ?_ _)); exact blk_put (cs := #[.int .i64 0, .int .i64 0, .string (⟨#[]⟩ : ByteArray)]) bk 0 _ rfl) k_ hk)); (case aO => exact (ra (Kd.R_mono (Kd.R_far (p := ⟨gb959, 2, none⟩) (Kd.R_far (p := ⟨gb959, 1, none⟩) (Kd.R_far (p := ⟨gb959, 0, none⟩) (Kd.R_mono HO_3.out (fun k_ hk => (⟨hk, hk.2⟩ : _ ∧ k_ ≠ gb959))) (fun _ hk => hk.2) (.int .i64 t956)) (fun _ hk => hk.2) (.int .i64 t957)) (fun _ hk => hk.2) (.string t958)) (fun _ hk => hk.1.2)))); (case aS => exact (below_size bwS)); (case aL => have := LMc72.out; omega); intro v964 w78 ho hb hg hat; rw [← Ny963.out] at ho; have n0_ := Aside0.mk (Kd.Q_over' (by (with_reducible repeat (first | apply Kd.Q_alloc | apply Kd.Q_drewN | apply Kd.Q_drew)); exact (Kd.Q_mono (Kd.Q_far (p := ⟨gb959, 2, none⟩) (Kd.Q_far (p := ⟨gb959, 1, none⟩) (Kd.Q_far (p := ⟨gb959, 0, none⟩) (Kd.Q_types HO_4.out BK959.out (by decide)) (fun _ hk => hk.2) (.int .i64 t956)) (fun _ hk => hk.2) (.int .i64 t957)) (fun _ hk => hk.2) (.string t958)) (fun _ h_ => h_.1))) (Kd.R_typed (ra ((Kd.R_mono (Kd.R_far (p := ⟨gb959, 2, none⟩) (Kd.R_far (p := ⟨gb959, 1, none⟩) (Kd.R_far (p := ⟨gb959, 0, none⟩) (Kd.R_mono HO_3.out (fun k_ hk => (⟨hk, hk.2⟩ : _ ∧ k_ ≠ gb959))) (fun _ hk => hk.2) (.int .i64 t956)) (fun _ hk => hk.2) (.int .i64 t957)) (fun _ hk => hk.2) (.string t958)) (fun _ h_ => h_.1))))) (by decide) hg); have n1_ := Aside0.mk (Kd.R_over' (by (with_reducible repeat (first | apply Kd.R_alloc | apply Kd.R_drewN | apply Kd.R_drew)); exact (Kd.R_mono (Kd.R_far (p := ⟨gb959, 2, none⟩) (Kd.R_far (p := ⟨gb959, 1, none⟩) (Kd.R_far (p := ⟨gb959, 0, none⟩) (Kd.R_types HO_5.out BK959.out (by decide)) (fun _ hk => hk.2) (.int .i64 t956)) (fun _ hk => hk.2) (.int .i64 t957)) (fun _ hk => hk.2) (.string t958)) (fun _ h_ => h_.1))) (Kd.R_typed (ra ((Kd.R_mono (Kd.R_far (p := ⟨gb959, 2, none⟩) (Kd.R_far (p := ⟨gb959, 1, none⟩) (Kd.R_far (p := ⟨gb959, 0, none⟩) (Kd.R_mono HO_3.out (fun k_ hk => (⟨hk, hk.2⟩ : _ ∧ k_ ≠ gb959))) (fun _ hk => hk.2) (.int .i64 t956)) (fun _ hk => hk.2) (.int .i64 t957)) (fun _ hk => hk.2) (.string t958)) (fun _ h_ => h_.1))))) (by decide) hg); have n2_ := Aside0.mk (blk_grown (g := gb926) (o := .cells #[.slice A0_0 l0_0.length c0_0, .string a0_1] 24 (0, 0)) (by (with_reducible repeat (first | refine blk_drewN ?_ _ | refine blk_drew ?_ | refine blk_alloc ?_ _)); refine blk_far ?_ NB926_959.out _; (with_reducible repeat (first | refine blk_drewN ?_ _ | refine blk_drew ?_ | refine blk_alloc ?_ _)); refine blk_far ?_ NB926_959.out _; (with_reducible repeat (first | refine blk_drewN ?_ _ | refine blk_drew ?_ | refine blk_alloc ?_ _)); refine blk_far ?_ NB926_959.out _; (with_reducible repeat (first | refine blk_drewN ?_ _ | refine blk_drew ?_ | refine blk_alloc ?_ _)); exact BK926.out) hg (Kd.R_ne HO_3.out BK926.out (by decide))); have n3_ := Aside0.mk (blk_grown (g := gb959) (o := .cells #[.int .i64 t956, .int .i64 t957, .string t958] 65 (0, 0)) (by (with_reducible repeat (first | refine blk_drewN ?_ _ | refine blk_drew ?_ | refine blk_alloc ?_ _)); refine blk_put (cs := #[.int .i64 t956, .int .i64 t957, .string (⟨#[]⟩ : ByteArray)]) ?_ 2 _ rfl; (with_reducible repeat (first | refine blk_drewN ?_ _ | refine blk_drew ?_ | refine blk_alloc ?_ _)); refine blk_put (cs := #[.int .i64 t956, .int .i64 0, .string (⟨#[]⟩ : ByteArray)]) ?_ 1 _ rfl; (with_reducible repeat (first | refine blk_drewN ?_ _ | refine blk_drew ?_ | refine blk_alloc ?_ _)); exact blk_put (cs := #[.int .i64 0, .int .i64 0, .string (⟨#[]⟩ : ByteArray)]) bk 0 _ rfl) hg (Kd.R_away HO_3.out (fun _ hk => hk.2))); have n4_ := Aside0.mk (hb); have n5_ := Aside0.mk (ho); clear HO_4; clear HO_5; clear BK926; clear BK959; clear HB; clear HO_3; have HO_4 := n0_; have HO_5 := n1_; have BK926 := n2_; have BK959 := n3_; have HB := n4_; have HO965 := n5_; clear n0_ n1_ n2_ n3_ n4_ n5_; clear ho hb hg hat))
                  go_roundg kj48
                  case measure => have := HJ3.out; have := HJ16.out; have := HJ26.out; have := HK4.out; have := HJ36.out; have := HJ48.out; omega
                  case rel => exact ⟨(y963), (x6_4), (wrap64 (x7_4 + 1)), cl, cl, H', ⟨by have := HJ3.out; have := HJ16.out; have := HJ26.out; have := HK4.out; have := HJ36.out; have := HJ48.out; omega⟩, ⟨ra (Kd.R_mono HO965.out (fun _ hk => trivial))⟩, ⟨ra (Kd.R_mono HO_5.out (fun _ hk => trivial))⟩, ⟨bk⟩, ⟨bwS⟩⟩
                 rw [if_neg c72] at H; exact absurd H (by simp)
                rw [if_neg c59] at H; exact absurd H (by simp)
             rw [if_neg c47] at H; exact absurd H (by simp)
            rw [if_neg c46] at H; exact absurd H (by simp)
           replace c45 := Bool.eq_false_iff.mpr c45; subst c45; rw [if_neg nft] at H; obtain rfl := Option.some.inj H
           go_wp2
           go_ret
           exact ⟨_, ew, ra HO_3.out, bwS⟩

end Go.Proofs.YtihabmcaplnbcaaGreatDoor.Fn
set_option linter.unusedVariables false
namespace Go.Proofs.YtihabmcaplnbcaaGreatDoor
open Go.ChangeShapes Go.WideShapes Go.ChangeAt Go.RowKit

/-! What all rows of this seat share: a world that meets the condition; the premises as the walks want them. -/
theorem own : ownKnob Tryz.prog.godebug = none := by kernel_rfl
theorem laidOut : laidOutB Tryz.prog = true := by kernel_rfl
def listed : List (String × DataW Unit) := [("unicode/utf8.acceptRanges", Rows.laid_unicode_utf8_acceptRanges), ("unicode/utf8.first", Rows.laid_unicode_utf8_first)]
noncomputable def laidWorld (os : Os) : World :=
 let w0 := World.holding Tryz.prog os ⟨#[], #[], []⟩
 let put (h : Array Obj) (g : Nat) (cs : Array Value) : Array Obj := h.modify g fun
  | .cells _ t frozen => .cells cs t frozen
  | o => o
 let h1 := put w0.heap 1 (Lib.firstTab.map fun z => Value.int .u8 z).toArray
 let h2 := put h1 2 ((List.range 16).flatMap fun i => [Value.int .u8 (Lib.accLo i), Value.int .u8 (Lib.accHi i)]).toArray
 { w0 with heap := h2 }
set_option maxRecDepth 100000 in
theorem laid_met (os : Os) (args : Array Value) : laidMetH Tryz.prog listed ((laidWorld os).forCall (fun _ _ => 0) ⟨#[], args, []⟩).memory :=
 laidMetH_of_parts (laidMet_of_run' 8 (by kernel_rfl) (by kernel_rfl)) (by kernel_rfl)

theorem lift_both {H : Type} {enc : TypeId × Value → H} {a : Assume} {C : Checked} {os : Os} {f : FuncId} {fn : Func} {s : ChangeSpec} {conds : List PathCond} {apart fresh handsOn again : Bool} {X : World → Array Value → Prop}
  (hX : ∀ (w w' : World) (args : Array Value), w.heap = w'.heap → X w args → X w' args)
  (own : ownKnob C.prog.godebug = none) (started : os.Started) (noInit : C.prog.inits.idxOf? f = none) (hfn : C.prog.funcs[f]? = some fn)
  (witness : ∃ (w : World) (tape : Tape) (i : Input), w.os = os ∧ (w.forCall tape i).Shaped C.prog ∧ i.vars = [] ∧ Input.okWide C.prog (w.forCall tape i) .any w.heap.size f i ∧
   ((s.pre enc C.prog fn conds apart (w.forCall tape i).memory i.args ∧ X (w.forCall tape i).memory i.args) ∧ sizedMet enc C.prog fn (OpenSpec.ofChange s) apart (w.forCall tape i).memory i.args) ∧ a.holds C.prog (lone (Frame.enter C.prog f i.args .normal) [] (w.forCall tape i)))
  (contract : ∀ (W : World) (base : Nat) (args : Array Value) (ds gs : List (DataW H)) (before : List MemPlace),
   (∀ (j : Nat) t v, fn.params[j]? = some t → args[j]? = some v → Value.okWide C.prog W .any base t v) →
   DataW.Whole enc C.prog fn.params.toList s.vars apart W args.toList ds gs before →
   (DataW.weightsEach C.prog (fn.params.toList ++ s.plain.varTypes C.prog) (ds ++ gs)).all (· ≤ reachBytes) = true → X W args → W.ShapedOpen C.prog →
   Calls C.prog f args W fun e W' => ∃ v, e = .returned v ∧ s.post enc C.prog fn apart fresh handsOn again W args v W') :
  ReturnsInHanded a C os f .any (fun w args => (s.pre enc C.prog fn conds apart w args ∧ X w args) ∧ sizedMet enc C.prog fn (OpenSpec.ofChange s) apart w args) (s.post enc C.prog fn apart fresh handsOn again) := by
 refine returnsInHanded_of_calls own started noInit witness ?_
 intro w tape i _ hsh _ hok hpre _
 obtain ⟨_, _, _, fn', hfn', _, _, _, _, hval⟩ := hok
 have e : fn' = fn := Option.some.inj (hfn'.symm.trans hfn)
 subst e
 obtain ⟨⟨⟨ds, gs, before, hw, _⟩, hx⟩, hz⟩ := hpre
 have hw' := DataW.Whole.of_heap (w' := w.forCall tape i) (by rfl) hw
 refine (contract (w.forCall tape i) w.heap.size i.args ds gs before hval hw' (hz.weights hw) (hX _ _ _ (by rfl) hx) hsh).mono fun e W' ⟨v, he, hp⟩ => ?_
 subst he
 exact ChangeSpec.post_blind hp
end Go.Proofs.YtihabmcaplnbcaaGreatDoor
set_option linter.unusedVariables false
namespace Go.Proofs.YtihabmcaplnbcaaGreatDoor.Fn
open Go.RowKit Go.Proofs.YtihabmcaplnbcaaGreatDoorW.PrintWords

/-! The package variables that the walks read: unicode/utf8's tables; internal/bytealg.MaxLen, some number. -/
structure Glob (w : World) : Prop where
 tabs : Lib.Utf8Tabs 1 2 w
 max : ∃ m : Int, w.cell? ⟨0, 0, none⟩ = some (.int .i64 m)
theorem cell_inside {w : World} {a : Addr} {v : Value} (h : w.cell? a = some v) : a.block < w.heap.size := by
 obtain ⟨o, ho, _⟩ := not_walk_of_cell h
 exact (Array.getElem?_eq_some_iff.1 ho).1
theorem Glob.below {w W : World} (h : Glob w) (hb : Below w.heap.size w W) : Glob W := by
 obtain ⟨m, hm⟩ := h.max
 exact ⟨Utf8Tabs_below h.tabs hb, m, (hb.cell (cell_inside hm)).trans hm⟩
theorem Glob.drawn {w W : World} (h : Glob w) (hd : Drawn0 w W) : Glob W := h.below hd.below
theorem glob_of {W : World} (hL : laidMetH Tryz.prog listed W) (hS : W.ShapedOpen Tryz.prog) : Glob W := by
 have hL' : laidMet Tryz.prog listed W := hL
 have h1 : Lib.VarReads Tryz.prog W "unicode/utf8.first" Lib.firstData := by
  have := Lib.laidMet.reads hL' (n := "unicode/utf8.first") (d := Rows.laid_unicode_utf8_first) (.tail _ (.head _))
  rw [show Rows.laid_unicode_utf8_first = Lib.firstData from Pinned.utf8First_eq] at this
  exact this
 have h2 : Lib.VarReads Tryz.prog W "unicode/utf8.acceptRanges" Lib.acceptData := Lib.laidMet.reads hL' (.head _)
 refine ⟨utf8Tabs_of_reads (ρ := Tryz.lays260_ren) Tryz.lays260 ⟨by kernel_rfl, by kernel_rfl, by kernel_rfl, by kernel_rfl, by kernel_rfl, by kernel_rfl, by kernel_rfl⟩ h1 h2, ?_⟩
 exact cell_of_shapedOpen_int (P := Tryz.prog) (g := 0) (t := 3) (zero := #[.int .i64 0]) hS (of_decide_eq_true (by kernel_rfl)) (by kernel_rfl) rfl (by kernel_rfl) (by kernel_rfl) Tryz.underlying3
end Go.Proofs.YtihabmcaplnbcaaGreatDoor.Fn
set_option linter.unusedVariables false
namespace Go.Proofs.YtihabmcaplnbcaaGreatDoor.Fn
open Go.RowKit Go.Proofs.YtihabmcaplnbcaaGreatDoorW.PrintWords

def strings_Cut.f (a0 a1 : ByteArray) : Option (ByteArray × ByteArray × Bool) :=
 if a0.size < 4294967281 then some (Pl.str (Lib.cut a0.data.toList a1.data.toList).1, Pl.str (Lib.cut a0.data.toList a1.data.toList).2.1, (Lib.cut a0.data.toList a1.data.toList).2.2) else none
theorem strings_Cut.calls (a0 a1 r1 r2 : ByteArray) (r3 : Bool) (w : World) (hG : Glob w) (h : strings_Cut.f a0 a1 = some (r1, r2, r3)) :
  Calls Tryz.prog 76 #[.string a0, .string a1] w fun e w' => e = .returned (.tuple #[.string r1, .string r2, .bool r3]) ∧ Below w.heap.size w w' := by
 unfold strings_Cut.f at h
 by_cases hs : a0.size < 4294967281
 ·rw [if_pos hs] at h
  have HR := Option.some.inj h
  injection HR with e1 HR
  injection HR with e2 e3
  obtain ⟨m, hm⟩ := hG.max
  refine (Tryz.strings_Cut a0 a1 m w hs hm).mono ?_
  rintro e w' ⟨rfl, n, rfl⟩
  refine ⟨?_, pw_below_drewN (Below.refl _ w) n⟩
  rw [← e1, ← e2, ← e3]
  rfl
 rw [if_neg hs] at h
 exact absurd h (by simp)
end Go.Proofs.YtihabmcaplnbcaaGreatDoor.Fn
namespace Go.Proofs.YtihabmcaplnbcaaGreatDoor.Fn
open Go.RowKit Go.Proofs.YtihabmcaplnbcaaGreatDoorW.PrintWords Go.Proofs.YtihabmcaplnbcaaGreatDoorW.PrintLast Go.Proofs.YtihabmcaplnbcaaGreatDoorW.PrintMore
attribute [local go_sem] max2_int min2_int max_two min_two max_three min_three max_four min_four
set_option linter.unusedVariables false
set_option linter.unusedSimpArgs false
def msg_Message_Lines.l0 : Nat → List ByteArray → ByteArray → Option (List ByteArray)
 | 0, _, _ => none
 | k + 1, x3, x4 => if x4.toList = ([] : List UInt8) then (some x3) else ((strings_Cut.f x4 (⟨#[13, 10]⟩ : ByteArray)).bind fun bt498 => (if x3.length < 8796093022208 then (msg_Message_Lines.l0 k (x3 ++ [bt498.1]) bt498.2.1) else (none)))
def msg_Message_Lines.f (k : Nat) (l0_0 : List (S35)) (a0_1 : ByteArray) : Option (List ByteArray) := msg_Message_Lines.l0 k ([] : List ByteArray) a0_1
set_option maxHeartbeats 8000000 in
set_option maxRecDepth 100000 in
theorem msg_Message_Lines.calls (k : Nat) (A0_0 : Option Addr) (c0_0 : Nat) (l0_0 : List (S35)) (a0_1 : ByteArray) (r : List ByteArray) (w : World) (hG : Glob w) (hr0_0 : Kd.C k35 w A0_0 l0_0.length l0_0) (hc0_0 : l0_0.length ≤ c0_0) (h : msg_Message_Lines.f k l0_0 a0_1 = some r) :
  Calls Tryz.prog 40 #[.agg #[.slice A0_0 l0_0.length c0_0, .string a0_1]] w fun e w' => ∃ v0_ : Value, e = .returned (v0_) ∧ Kd.R Kd.string 9 w' w.heap.size (fun _ => True) v0_ r ∧ Below w.heap.size w w' := by
 have hu29 := Tryz.underlying29; have HR0_0 := Aside0.mk hr0_0; have HC0_0 := Aside0.mk hc0_0; clear hr0_0 hc0_0; have HB := Aside0.mk (Below.refl w.heap.size w); have H : (msg_Message_Lines.l0 k ([] : List ByteArray) a0_1) = some r := h; clear h; have H' := Aside0.mk H; clear H
 go_enter Tryz.func40, Tryz.ntmps40
 go_wp2_with (first | ((with_reducible refine gate_dst (N := 1) rfl ?_); refine box_event ?hg (N := 1) ?hd (cs := #[.slice A0_0 l0_0.length c0_0, .string a0_1]) (t := 29) ?hr ?_; (case hd => rfl); (case hg => rfl); (case hr => first | (go_simp; done) | (go_simp; rfl)); intro gb497 hg w2 hbox hb; have n0_ := Aside0.mk (below_step bw hb); have n1_ := Aside0.mk (hbox); have n2_ := Aside0.mk ((by rw [hg]; exact (below_size bw) : w.heap.size ≤ gb497)); have n3_ := Aside0.mk ((by rw [hg]; exact (below_size bw) : w.heap.size ≤ gb497)); clear HB; have HB := n0_; have BK497 := n1_; have GW497 := n2_; have GE497 := n3_; clear n0_ n1_ n2_ n3_; clear hb hbox hg; have hcz3_0 : w2.cell? ⟨gb497, 0, none⟩ = some (.slice A0_0 l0_0.length c0_0) := (blk_cell BK497.out 0).trans rfl; have hcz3_1 : w2.cell? ⟨gb497, 1, none⟩ = some (.string a0_1) := (blk_cell BK497.out 1).trans rfl; have hfz3_0 := blk_frozen BK497.out 0; have hfz3_1 := blk_frozen BK497.out 1))
 go_loopg [3, 4] k (fun kq v3 v4 w' => ∃ (x3_1 : List ByteArray) (x4_1 : ByteArray), v4 = .string x4_1 ∧ Aside0 (msg_Message_Lines.l0 kq x3_1 x4_1 = some r) ∧ Aside0 (kq ≤ k) ∧ Aside0 (Kd.R Kd.string 9 w' w.heap.size (fun _ => True) v3 x3_1) ∧ Aside0 (w'.heap[gb497]? = some (.cells #[(.slice A0_0 l0_0.length c0_0), .string a0_1] 29 (0, 0))) ∧ Aside0 (Below w.heap.size w w'))
 case atStart => exact ⟨(([] : List ByteArray)), (a0_1), cl, H', ⟨Nat.le_refl _⟩, ⟨by first | exact Kd.R_nil _ _ _ _ _ | exact Kd.N_nil _ _ _ _ _ | exact Kd.V_nil _ _ _ _ _ | exact Kd.Q_nil _ _ _ _ _ | exact Kd.S_nil _ _ _ _ _⟩, ⟨bk⟩, ⟨bwS⟩⟩
 case round =>
  clear H'
  try clear p2
  try clear hcz3_0
  try clear hcz3_1
  try clear hfz3_0
  try clear hfz3_1
  obtain ⟨x3_1, x4_1, rfl, HA, HK1, HO_3, BK497, HB⟩ := hrel; cases gk with
  | zero => exact absurd HA.out (by simp [msg_Message_Lines.l0])
  | succ k1 =>
   have H := HA.out; clear HA; simp only [msg_Message_Lines.l0] at H
   by_cases c4 : x4_1.toList = ([] : List UInt8)
   ·rw [if_pos c4] at H; have c4b0 := beq_iff_eq.mpr c4; have c4b1 := bne_eq_false_iff_eq.mpr c4; clear c4; obtain rfl := Option.some.inj H
    go_wp2
    go_ret
    exact ⟨_, ew, ra HO_3.out, bwS⟩
   rw [if_neg c4] at H; have c4b0 := beq_eq_false_iff_ne.mpr c4; have c4b1 := bne_iff_ne.mpr c4; replace H := Option.bind_eq_some_iff.mp H; obtain ⟨⟨t498, t499, t500⟩, A50, H⟩ := H; replace H : (if x3_1.length < 8796093022208 then (msg_Message_Lines.l0 k1 (x3_1 ++ [t498]) t499) else (none)) = some r := H; have A5 := Aside0.mk A50; clear A50
   by_cases c6 : x3_1.length < 8796093022208
   ·rw [if_pos c6] at H; have LMc6 := Aside0.mk c6; clear c6; obtain ⟨y501, hy501⟩ : ∃ y_ : List ByteArray, y_ = (x3_1 ++ [t498]) := ⟨_, rfl⟩
    replace H : (msg_Message_Lines.l0 k1 y501 t499) = some r := by first | (rw [hy501]; with_reducible exact H) | (have H2_ := (Option.bind_some _ _).symm.trans H; rw [hy501]; with_reducible exact H2_) | (have H2_ := (Option.bind_some _ _).symm.trans H; with_reducible exact H2_) | with_reducible exact H | (rw [hy501]; exact H) | exact H
    have Ny501 := Aside0.mk hy501; clear hy501; have H' := Aside0.mk H; clear H
    go_wp2_with (first | ((with_reducible refine gate_callee (f := 76) rfl ?_); refine goesL_ (some 14) rfl rfl Tryz.func76 (by kernel_rfl) rfl #[.string x4_1, .string (⟨#[13, 10]⟩ : ByteArray)] rfl am ?_; (with_reducible refine (strings_Cut.calls (hG := by first | exact hG | exact Glob.below hG (by first | exact HB.out | (repeat (first | (with_reducible first | exact HB.out | apply below_alloc | apply pw_below_drewN | apply below_drew1 | refine below_set ?_ GE497.out) | exact HB.out))) | exact Glob.drawn hG (d0)) x4_1 (⟨#[13, 10]⟩ : ByteArray) t498 t499 t500 _ A5.out).mono ?_); rintro e w7 ⟨rfl, hb⟩; refine ⟨_, rfl, ?_⟩; have n0_ := Aside0.mk (Kd.R_below (ra HO_3.out) hb); have n1_ := Aside0.mk (blk_below (g := gb497) (o := .cells #[.slice A0_0 l0_0.length c0_0, .string a0_1] 29 (0, 0)) bk hb); have n2_ := Aside0.mk (below_step bwS hb); clear HO_3; clear BK497; clear HB; have HO_3 := n0_; have BK497 := n1_; have HB := n2_; clear n0_ n1_ n2_; (try clear hb); (try clear hb2); (try clear hk); (try clear hi)) | ((with_reducible refine gate_builtin (b := .append) (xs := #[.tmp 18, .tmp 20]) rfl ?_); at_builtin; refine Kd.R_append Kd.string (w0 := w) w.heap.size rfl (.tmp 18) (.tmp 20) 53 9 (.string ⟨#[]⟩) 16 rfl Tryz.underlying53 info9 rfl (by decide) (by omega) u3 x3_1 t498 [.string t498] (fun _ => True) (fun _ => False) rfl rfl ?aP (fun _ hk => hk.elim) ?aF ?aO ?aB ?aS ?aL ?_; (case aP => exact rfl); (case aB => exact bwS); (case aF => exact (fun _ _ => trivial)); (case aO => exact (ra HO_3.out)); (case aS => exact (below_size bwS)); (case aL => have := LMc6.out; omega); intro v502 w8 ho hb hg hat; rw [← Ny501.out] at ho; have n0_ := Aside0.mk (blk_grown (g := gb497) (o := .cells #[.slice A0_0 l0_0.length c0_0, .string a0_1] 29 (0, 0)) bk hg (Kd.R_ne HO_3.out BK497.out (by decide))); have n1_ := Aside0.mk (hb); have n2_ := Aside0.mk (ho); clear BK497; clear HB; clear HO_3; have BK497 := n0_; have HB := n1_; have HO503 := n2_; clear n0_ n1_ n2_; clear ho hb hg hat))
    go_roundg k1
    case measure => have := HK1.out; omega
    case rel => exact ⟨(y501), (t499), cl, H', ⟨by have := HK1.out; omega⟩, ⟨ra HO503.out⟩, ⟨bk⟩, ⟨bwS⟩⟩
   rw [if_neg c6] at H; exact absurd H (by simp)

def order_stops.f (l0 : List ByteArray) : Option (Bool) := if 0 < (l0.length : Int) then (if (rdOf ByteArray.empty l0 0).toList = ([101, 110, 100] : List UInt8) then (some true) else (if (rdOf ByteArray.empty l0 0).toList = ([115, 116, 111, 112] : List UInt8) then (some true) else (if (rdOf ByteArray.empty l0 0).toList = ([113, 117, 105, 116] : List UInt8) then (some true) else (if (rdOf ByteArray.empty l0 0).toList = ([45, 45] : List UInt8) then (some true) else (some false))))) else (none)
set_option maxHeartbeats 8000000 in
set_option maxRecDepth 100000 in
theorem order_stops.calls (A0 : Option Addr) (c0 : Nat) (l0 : List ByteArray) (r : Bool) (w : World) (hr0 : Kd.C Kd.string w A0 l0.length l0) (hc0 : l0.length ≤ c0) (h : order_stops.f l0 = some r) :
  Calls Tryz.prog 57 #[.slice A0 l0.length c0] w fun e w' => e = .returned (.bool r) ∧ Drawn0 w w' := by
 have HR0 := Aside0.mk hr0; have HC0 := Aside0.mk hc0; clear hr0 hc0; have H : (if 0 < (l0.length : Int) then (if (rdOf ByteArray.empty l0 0).toList = ([101, 110, 100] : List UInt8) then (some true) else (if (rdOf ByteArray.empty l0 0).toList = ([115, 116, 111, 112] : List UInt8) then (some true) else (if (rdOf ByteArray.empty l0 0).toList = ([113, 117, 105, 116] : List UInt8) then (some true) else (if (rdOf ByteArray.empty l0 0).toList = ([45, 45] : List UInt8) then (some true) else (some false))))) else (none)) = some r := h; clear h
 by_cases c2 : 0 < (l0.length : Int)
 ·rw [if_pos c2] at H; have c2b0 := decide_eq_true c2; have c2b1 : decide (0 < l0.length) = true := decide_eq_true (by omega); clear c2
  by_cases c3 : (rdOf ByteArray.empty l0 0).toList = ([101, 110, 100] : List UInt8)
  ·rw [if_pos c3] at H; have c3b0 := beq_iff_eq.mpr c3; have c3b1 := bne_eq_false_iff_eq.mpr c3; clear c3; obtain rfl := Option.some.inj H; have p776 : 0 ≤ (0 : Int) := (by omega)
   have q776 : 0 < (l0.length : Int) := od; obtain ⟨ad776, e776, hx776_0⟩ := Kd.at_string HR0.out 0 p776 q776; cases e776; have qi776 : (0 < l0.length) = True := eq_true (by omega)
   (try rw [show ((0 : Int)).toNat = 0 from rfl] at hx776_0)
   (try rw [Addr.add_zero'] at hx776_0)
   replace p776 := eq_true p776; replace q776 := eq_true q776
   go_enter Tryz.func57, Tryz.ntmps57
   go_wp2
   go_ret
   exact ⟨cl, d0⟩
  rw [if_neg c3] at H; have c3b0 := beq_eq_false_iff_ne.mpr c3; have c3b1 := bne_iff_ne.mpr c3
  by_cases c4 : (rdOf ByteArray.empty l0 0).toList = ([115, 116, 111, 112] : List UInt8)
  ·rw [if_pos c4] at H; have c4b0 := beq_iff_eq.mpr c4; have c4b1 := bne_eq_false_iff_eq.mpr c4; clear c4; obtain rfl := Option.some.inj H; have p776 : 0 ≤ (0 : Int) := (by omega)
   have q776 : 0 < (l0.length : Int) := od; obtain ⟨ad776, e776, hx776_0⟩ := Kd.at_string HR0.out 0 p776 q776; cases e776; have qi776 : (0 < l0.length) = True := eq_true (by omega)
   (try rw [show ((0 : Int)).toNat = 0 from rfl] at hx776_0)
   (try rw [Addr.add_zero'] at hx776_0)
   replace p776 := eq_true p776; replace q776 := eq_true q776
   go_enter Tryz.func57, Tryz.ntmps57
   go_wp2
   go_ret
   exact ⟨cl, d0⟩
  rw [if_neg c4] at H; have c4b0 := beq_eq_false_iff_ne.mpr c4; have c4b1 := bne_iff_ne.mpr c4
  by_cases c5 : (rdOf ByteArray.empty l0 0).toList = ([113, 117, 105, 116] : List UInt8)
  ·rw [if_pos c5] at H; have c5b0 := beq_iff_eq.mpr c5; have c5b1 := bne_eq_false_iff_eq.mpr c5; clear c5; obtain rfl := Option.some.inj H; have p776 : 0 ≤ (0 : Int) := (by omega)
   have q776 : 0 < (l0.length : Int) := od; obtain ⟨ad776, e776, hx776_0⟩ := Kd.at_string HR0.out 0 p776 q776; cases e776; have qi776 : (0 < l0.length) = True := eq_true (by omega)
   (try rw [show ((0 : Int)).toNat = 0 from rfl] at hx776_0)
   (try rw [Addr.add_zero'] at hx776_0)
   replace p776 := eq_true p776; replace q776 := eq_true q776
   go_enter Tryz.func57, Tryz.ntmps57
   go_wp2
   go_ret
   exact ⟨cl, d0⟩
  rw [if_neg c5] at H; have c5b0 := beq_eq_false_iff_ne.mpr c5; have c5b1 := bne_iff_ne.mpr c5
  by_cases c6 : (rdOf ByteArray.empty l0 0).toList = ([45, 45] : List UInt8)
  ·rw [if_pos c6] at H; have c6b0 := beq_iff_eq.mpr c6; have c6b1 := bne_eq_false_iff_eq.mpr c6; clear c6; obtain rfl := Option.some.inj H; have p776 : 0 ≤ (0 : Int) := (by omega)
   have q776 : 0 < (l0.length : Int) := od; obtain ⟨ad776, e776, hx776_0⟩ := Kd.at_string HR0.out 0 p776 q776; cases e776; have qi776 : (0 < l0.length) = True := eq_true (by omega)
   (try rw [show ((0 : Int)).toNat = 0 from rfl] at hx776_0)
   (try rw [Addr.add_zero'] at hx776_0)
   replace p776 := eq_true p776; replace q776 := eq_true q776
   go_enter Tryz.func57, Tryz.ntmps57
   go_wp2
   go_ret
   exact ⟨cl, d0⟩
  rw [if_neg c6] at H; have c6b0 := beq_eq_false_iff_ne.mpr c6; have c6b1 := bne_iff_ne.mpr c6; obtain rfl := Option.some.inj H; have p776 : 0 ≤ (0 : Int) := (by omega)
  have q776 : 0 < (l0.length : Int) := od; obtain ⟨ad776, e776, hx776_0⟩ := Kd.at_string HR0.out 0 p776 q776; cases e776; have qi776 : (0 < l0.length) = True := eq_true (by omega)
  (try rw [show ((0 : Int)).toNat = 0 from rfl] at hx776_0)
  (try rw [Addr.add_zero'] at hx776_0)
  replace p776 := eq_true p776; replace q776 := eq_true q776
  go_enter Tryz.func57, Tryz.ntmps57
  go_wp2
  go_ret
  exact ⟨cl, d0⟩
 rw [if_neg c2] at H; exact absurd H (by simp)

def head_same.f (a0 : ByteArray) (a1 : ByteArray) : Option (Bool) := (glyph_Fold.f a0).bind fun t355 => ((glyph_Fold.f a1).bind fun t356 => (some (t355.toList == t356.toList)))
set_option maxHeartbeats 8000000 in
set_option maxRecDepth 100000 in
theorem head_same.calls (a0 : ByteArray) (a1 : ByteArray) (r : Bool) (w : World) (h : head_same.f a0 a1 = some r) :
  Calls Tryz.prog 78 #[.string a0, .string a1] w fun e w' => e = .returned (.bool r) ∧ Below w.heap.size w w' := by
 have HB := Aside0.mk (Below.refl w.heap.size w); have H : ((glyph_Fold.f a0).bind fun t355 => ((glyph_Fold.f a1).bind fun t356 => (some (t355.toList == t356.toList)))) = some r := h; clear h; replace H := Option.bind_eq_some_iff.mp H; obtain ⟨t355, A30, H⟩ := H; have A3 := Aside0.mk A30; clear A30; replace H := Option.bind_eq_some_iff.mp H; obtain ⟨t356, A40, H⟩ := H; have A4 := Aside0.mk A40; clear A40; obtain rfl := Option.some.inj H
 go_enter Tryz.func78, Tryz.ntmps78
 go_wp2_with (first | ((with_reducible refine gate_callee (f := 48) rfl ?_); refine goesL_ (some 6) rfl rfl Tryz.func48 (by kernel_rfl) rfl #[.string a0] rfl am ?_; (with_reducible refine (glyph_Fold.calls a0 t355 _ A3.out).mono ?_); rintro e w5 ⟨rfl, hb⟩; refine ⟨_, rfl, ?_⟩; have n0_ := Aside0.mk (below_step bw hb); clear HB; have HB := n0_; clear n0_; (try clear hb); (try clear hb2); (try clear hk); (try clear hi)) | ((with_reducible refine gate_callee (f := 48) rfl ?_); refine goesL_ (some 8) rfl rfl Tryz.func48 (by kernel_rfl) rfl #[.string a1] rfl am ?_; (with_reducible refine (glyph_Fold.calls a1 t356 _ A4.out).mono ?_); rintro e w6 ⟨rfl, hb⟩; refine ⟨_, rfl, ?_⟩; have n0_ := Aside0.mk (below_step bw hb); clear HB; have HB := n0_; clear n0_; (try clear hb); (try clear hb2); (try clear hk); (try clear hi)))
 go_ret
 exact ⟨ew, bw⟩

def head_Get.l0 : Nat → ByteArray → List (S35) → Int → Int → Option (ByteArray × Bool)
 | 0, _, _, _, _ => none
 | k + 1, x1, x8, x9, x10 => if x10 < x9 then (if 0 ≤ x10 then (if x10 < (x8.length : Int) then ((head_same.f ((rd_T35 x8 x10).f0) x1).bind fun t636 => (if t636 = true then (some ((rd_T35 x8 x10).f1, true)) else (head_Get.l0 k x1 x8 x9 (wrap64 (x10 + 1))))) else (none)) else (none)) else (some ((⟨#[]⟩ : ByteArray), false))
def head_Get.f (k : Nat) (l0 : List (S35)) (a1 : ByteArray) : Option (ByteArray × Bool) := head_Get.l0 k a1 l0 (l0.length : Int) 0
set_option maxHeartbeats 8000000 in
set_option maxRecDepth 100000 in
theorem head_Get.calls (k : Nat) (A0 : Option Addr) (c0 : Nat) (l0 : List (S35)) (a1 : ByteArray) (r1 : ByteArray) (r2 : Bool) (w : World) (hr0 : Kd.C k35 w A0 l0.length l0) (hc0 : l0.length ≤ c0) (h : head_Get.f k l0 a1 = some (r1, r2)) :
  Calls Tryz.prog 45 #[.slice A0 l0.length c0, .string a1] w fun e w' => e = .returned (.tuple #[.string r1, .bool r2]) ∧ Below w.heap.size w w' := by
 have hu35 := Tryz.underlying35; have HR0 := Aside0.mk hr0; have HC0 := Aside0.mk hc0; clear hr0 hc0; have HB := Aside0.mk (Below.refl w.heap.size w); have H : (head_Get.l0 k a1 l0 (l0.length : Int) 0) = some (r1, r2) := h; clear h; have H' := Aside0.mk H; clear H
 go_enter Tryz.func45, Tryz.ntmps45
 go_wp2
 go_loopg [10] k (fun kq v10 w' => ∃ (x10_1 : Int), v10 = .int .i64 x10_1 ∧ Aside0 (head_Get.l0 kq a1 l0 (l0.length : Int) x10_1 = some (r1, r2)) ∧ Aside0 (kq ≤ k) ∧ Aside0 (Below w.heap.size w w'))
 case atStart => exact ⟨(0), cl, H', ⟨Nat.le_refl _⟩, ⟨bw⟩⟩
 case round =>
  clear H'
  try clear p2
  obtain ⟨x10_1, rfl, HA, HK1, HB⟩ := hrel; cases gk with
  | zero => exact absurd HA.out (by simp [head_Get.l0])
  | succ k1 =>
   have H := HA.out; clear HA; simp only [head_Get.l0] at H
   by_cases c3 : x10_1 < (l0.length : Int)
   ·rw [if_pos c3] at H; have c3b0 := decide_eq_true c3; clear c3
    by_cases c4 : 0 ≤ x10_1
    ·rw [if_pos c4] at H; have c4b0 := decide_eq_true c4; clear c4
     by_cases c5 : x10_1 < (l0.length : Int)
     ·rw [if_pos c5] at H; have c5b0 := decide_eq_true c5; clear c5; replace H := Option.bind_eq_some_iff.mp H; obtain ⟨t636, A60, H⟩ := H; have A6 := Aside0.mk A60; clear A60
      by_cases c7 : t636 = true
      ·subst c7; rw [if_pos rfl] at H; simp only [Option.some.injEq, Prod.mk.injEq] at H; obtain ⟨rfl, rfl⟩ := H; have p634 : 0 ≤ (x10_1 : Int) := od; have q634 : x10_1 < (l0.length : Int) := od; obtain ⟨ad634, e634, hx634_0, hx634_1⟩ := at_T35 HR0.out x10_1 p634 q634; cases e634; replace hx634_0 := (HB.out.cell (World.block_lt_of_cell? w _ hx634_0)).trans hx634_0; replace hx634_1 := (HB.out.cell (World.block_lt_of_cell? w _ hx634_1)).trans hx634_1; replace p634 := eq_true p634; replace q634 := eq_true q634
       go_wp2_with (first | ((with_reducible refine gate_dst (N := 7) rfl ?_); refine box_event ?hg (N := 7) ?hd (cs := #[.string (⟨#[]⟩ : ByteArray), .string (⟨#[]⟩ : ByteArray)]) (t := 35) ?hr ?_; (case hd => rfl); (case hg => rfl); (case hr => first | (go_simp; done) | (go_simp; rfl)); intro gb635 hg w8 hbox hb; have n0_ := Aside0.mk (below_step bw hb); have n1_ := Aside0.mk (hbox); have n2_ := Aside0.mk ((by rw [hg]; exact (below_size bw) : w.heap.size ≤ gb635)); have n3_ := Aside0.mk ((by rw [hg]; exact (below_size bw) : w.heap.size ≤ gb635)); clear HB; have HB := n0_; have BK635 := n1_; have GW635 := n2_; have GE635 := n3_; clear n0_ n1_ n2_ n3_; clear hb hbox hg; have hcz9_0 : w8.cell? ⟨gb635, 0, none⟩ = some (.string (⟨#[]⟩ : ByteArray)) := (blk_cell BK635.out 0).trans rfl; have hcz9_1 : w8.cell? ⟨gb635, 1, none⟩ = some (.string (⟨#[]⟩ : ByteArray)) := (blk_cell BK635.out 1).trans rfl; have hfz9_0 := blk_frozen BK635.out 0; have hfz9_1 := blk_frozen BK635.out 1) | ((with_reducible refine gate_callee (f := 78) rfl ?_); refine goesL_ (some 17) rfl rfl Tryz.func78 (by kernel_rfl) rfl #[.string ((rd_T35 l0 x10_1).f0), .string a1] rfl am ?_; (with_reducible refine (head_same.calls ((rd_T35 l0 x10_1).f0) a1 true _ A6.out).mono ?_); rintro e w10 ⟨rfl, hb⟩; refine ⟨_, rfl, ?_⟩; have n0_ := Aside0.mk (blk_below (g := gb635) (o := .cells #[.string ((rd_T35 l0 x10_1).f0), .string ((rd_T35 l0 x10_1).f1)] 35 (0, 0)) (by (with_reducible repeat (first | refine blk_drewN ?_ _ | refine blk_drew ?_ | refine blk_alloc ?_ _)); refine blk_put (cs := #[.string ((rd_T35 l0 x10_1).f0), .string (⟨#[]⟩ : ByteArray)]) ?_ 1 _ rfl; (with_reducible repeat (first | refine blk_drewN ?_ _ | refine blk_drew ?_ | refine blk_alloc ?_ _)); exact blk_put (cs := #[.string (⟨#[]⟩ : ByteArray), .string (⟨#[]⟩ : ByteArray)]) bk 0 _ rfl) hb); have n1_ := Aside0.mk (below_step bwS hb); clear BK635; clear HB; have BK635 := n0_; have HB := n1_; clear n0_ n1_; (try clear hb); (try clear hb2); (try clear hk); (try clear hi); have hcz11_0 : w10.cell? ⟨gb635, 0, none⟩ = some (.string ((rd_T35 l0 x10_1).f0)) := (blk_cell BK635.out 0).trans rfl; have hcz11_1 : w10.cell? ⟨gb635, 1, none⟩ = some (.string ((rd_T35 l0 x10_1).f1)) := (blk_cell BK635.out 1).trans rfl; have hfz11_0 := blk_frozen BK635.out 0; have hfz11_1 := blk_frozen BK635.out 1))
       go_ret2
       exact ⟨ew, bwS⟩
      replace c7 := Bool.eq_false_iff.mpr c7; subst c7; rw [if_neg nft] at H; have H' := Aside0.mk H; clear H; have p634 : 0 ≤ (x10_1 : Int) := od; have q634 : x10_1 < (l0.length : Int) := od; obtain ⟨ad634, e634, hx634_0, hx634_1⟩ := at_T35 HR0.out x10_1 p634 q634; cases e634; replace hx634_0 := (HB.out.cell (World.block_lt_of_cell? w _ hx634_0)).trans hx634_0; replace hx634_1 := (HB.out.cell (World.block_lt_of_cell? w _ hx634_1)).trans hx634_1; replace p634 := eq_true p634; replace q634 := eq_true q634
      go_wp2_with (first | ((with_reducible refine gate_dst (N := 7) rfl ?_); refine box_event ?hg (N := 7) ?hd (cs := #[.string (⟨#[]⟩ : ByteArray), .string (⟨#[]⟩ : ByteArray)]) (t := 35) ?hr ?_; (case hd => rfl); (case hg => rfl); (case hr => first | (go_simp; done) | (go_simp; rfl)); intro gb635 hg w12 hbox hb; have n0_ := Aside0.mk (below_step bw hb); have n1_ := Aside0.mk (hbox); have n2_ := Aside0.mk ((by rw [hg]; exact (below_size bw) : w.heap.size ≤ gb635)); have n3_ := Aside0.mk ((by rw [hg]; exact (below_size bw) : w.heap.size ≤ gb635)); clear HB; have HB := n0_; have BK635 := n1_; have GW635 := n2_; have GE635 := n3_; clear n0_ n1_ n2_ n3_; clear hb hbox hg; have hcz13_0 : w12.cell? ⟨gb635, 0, none⟩ = some (.string (⟨#[]⟩ : ByteArray)) := (blk_cell BK635.out 0).trans rfl; have hcz13_1 : w12.cell? ⟨gb635, 1, none⟩ = some (.string (⟨#[]⟩ : ByteArray)) := (blk_cell BK635.out 1).trans rfl; have hfz13_0 := blk_frozen BK635.out 0; have hfz13_1 := blk_frozen BK635.out 1) | ((with_reducible refine gate_callee (f := 78) rfl ?_); refine goesL_ (some 17) rfl rfl Tryz.func78 (by kernel_rfl) rfl #[.string ((rd_T35 l0 x10_1).f0), .string a1] rfl am ?_; (with_reducible refine (head_same.calls ((rd_T35 l0 x10_1).f0) a1 false _ A6.out).mono ?_); rintro e w14 ⟨rfl, hb⟩; refine ⟨_, rfl, ?_⟩; have n0_ := Aside0.mk (blk_below (g := gb635) (o := .cells #[.string ((rd_T35 l0 x10_1).f0), .string ((rd_T35 l0 x10_1).f1)] 35 (0, 0)) (by (with_reducible repeat (first | refine blk_drewN ?_ _ | refine blk_drew ?_ | refine blk_alloc ?_ _)); refine blk_put (cs := #[.string ((rd_T35 l0 x10_1).f0), .string (⟨#[]⟩ : ByteArray)]) ?_ 1 _ rfl; (with_reducible repeat (first | refine blk_drewN ?_ _ | refine blk_drew ?_ | refine blk_alloc ?_ _)); exact blk_put (cs := #[.string (⟨#[]⟩ : ByteArray), .string (⟨#[]⟩ : ByteArray)]) bk 0 _ rfl) hb); have n1_ := Aside0.mk (below_step bwS hb); clear BK635; clear HB; have BK635 := n0_; have HB := n1_; clear n0_ n1_; (try clear hb); (try clear hb2); (try clear hk); (try clear hi)))
      go_roundg k1
      case measure => have := HK1.out; omega
      case rel => exact ⟨(wrap64 (x10_1 + 1)), cl, H', ⟨by have := HK1.out; omega⟩, ⟨bwS⟩⟩
     rw [if_neg c5] at H; exact absurd H (by simp)
    rw [if_neg c4] at H; exact absurd H (by simp)
   rw [if_neg c3] at H; have c3b0 := decide_eq_false c3; clear c3; simp only [Option.some.injEq, Prod.mk.injEq] at H; obtain ⟨rfl, rfl⟩ := H
   go_wp2
   go_ret2
   exact ⟨ew, bw⟩

def msg_Message_Get.f (k : Nat) (l0_0 : List (S35)) (a0_1 : ByteArray) (a1 : ByteArray) : Option (ByteArray) := (head_Get.f k l0_0 a1).bind fun bt638 => (some bt638.1)
set_option maxHeartbeats 8000000 in
set_option maxRecDepth 100000 in
theorem msg_Message_Get.calls (k : Nat) (A0_0 : Option Addr) (c0_0 : Nat) (l0_0 : List (S35)) (a0_1 : ByteArray) (a1 : ByteArray) (r : ByteArray) (w : World) (hr0_0 : Kd.C k35 w A0_0 l0_0.length l0_0) (hc0_0 : l0_0.length ≤ c0_0) (h : msg_Message_Get.f k l0_0 a0_1 a1 = some r) :
  Calls Tryz.prog 17 #[.agg #[.slice A0_0 l0_0.length c0_0, .string a0_1], .string a1] w fun e w' => e = .returned (.string r) ∧ Below w.heap.size w w' := by
 have hu29 := Tryz.underlying29; have HR0_0 := Aside0.mk hr0_0; have HC0_0 := Aside0.mk hc0_0; clear hr0_0 hc0_0; have HB := Aside0.mk (Below.refl w.heap.size w); have H : ((head_Get.f k l0_0 a1).bind fun bt638 => (some bt638.1)) = some r := h; clear h; replace H := Option.bind_eq_some_iff.mp H; obtain ⟨⟨t638, t639⟩, A30, H⟩ := H; replace H : (some t638) = some r := H; have A3 := Aside0.mk A30; clear A30; obtain rfl := Option.some.inj H
 go_enter Tryz.func17, Tryz.ntmps17
 go_wp2_with (first | ((with_reducible refine gate_dst (N := 2) rfl ?_); refine box_event ?hg (N := 2) ?hd (cs := #[.slice A0_0 l0_0.length c0_0, .string a0_1]) (t := 29) ?hr ?_; (case hd => rfl); (case hg => rfl); (case hr => first | (go_simp; done) | (go_simp; rfl)); intro gb637 hg w4 hbox hb; have n0_ := Aside0.mk (below_step bw hb); have n1_ := Aside0.mk (hbox); have n2_ := Aside0.mk ((by rw [hg]; exact (below_size bw) : w.heap.size ≤ gb637)); have n3_ := Aside0.mk ((by rw [hg]; exact (below_size bw) : w.heap.size ≤ gb637)); clear HB; have HB := n0_; have BK637 := n1_; have GW637 := n2_; have GE637 := n3_; clear n0_ n1_ n2_ n3_; clear hb hbox hg; have hcz5_0 : w4.cell? ⟨gb637, 0, none⟩ = some (.slice A0_0 l0_0.length c0_0) := (blk_cell BK637.out 0).trans rfl; have hcz5_1 : w4.cell? ⟨gb637, 1, none⟩ = some (.string a0_1) := (blk_cell BK637.out 1).trans rfl; have hfz5_0 := blk_frozen BK637.out 0; have hfz5_1 := blk_frozen BK637.out 1) | ((with_reducible refine gate_callee (f := 45) rfl ?_); refine goesL_ (some 11) rfl rfl Tryz.func45 (by kernel_rfl) rfl #[.slice A0_0 l0_0.length c0_0, .string a1] rfl am ?_; (with_reducible refine (head_Get.calls k _ _ l0_0 a1 t638 t639 _ ?side1 ?side2 A3.out).mono ?_); (case side1 => repeat (first | exact (Kd.C_below HR0_0.out HB.out) | (with_reducible refine Kd.C_alloc ?_ _) | (with_reducible refine Kd.C_drewN ?_ _) | (with_reducible refine Kd.C_drew ?_))); (case side2 => exact HC0_0.out); rintro e w6 ⟨rfl, hb⟩; refine ⟨_, rfl, ?_⟩; have n0_ := Aside0.mk (blk_below (g := gb637) (o := .cells #[.slice A0_0 l0_0.length c0_0, .string a0_1] 29 (0, 0)) bk hb); have n1_ := Aside0.mk (below_step bwS hb); clear BK637; clear HB; have BK637 := n0_; have HB := n1_; clear n0_ n1_; (try clear hb); (try clear hb2); (try clear hk); (try clear hi)))
 go_ret
 exact ⟨ew, bwS⟩

def b64_white.f (a0 : Int) : Option (Bool) := if a0 = 32 then (some true) else (if a0 = 9 then (some true) else (if a0 = 13 then (some true) else (some (a0 == 10))))
set_option maxHeartbeats 8000000 in
set_option maxRecDepth 100000 in
theorem b64_white.calls (a0 : Int) (r : Bool) (w : World) (h : b64_white.f a0 = some r) :
  Calls Tryz.prog 225 #[.int .u8 a0] w fun e w' => e = .returned (.bool r) ∧ Drawn0 w w' := by
 have H : (if a0 = 32 then (some true) else (if a0 = 9 then (some true) else (if a0 = 13 then (some true) else (some (a0 == 10))))) = some r := h; clear h
 by_cases c2 : a0 = 32
 ·rw [if_pos c2] at H; have c2b0 := beq_iff_eq.mpr c2; have c2b1 := bne_eq_false_iff_eq.mpr c2; clear c2; obtain rfl := Option.some.inj H
  go_enter Tryz.func225, Tryz.ntmps225
  go_wp2
  go_ret
  exact ⟨cl, d0⟩
 rw [if_neg c2] at H; have c2b0 := beq_eq_false_iff_ne.mpr c2; have c2b1 := bne_iff_ne.mpr c2
 by_cases c3 : a0 = 9
 ·rw [if_pos c3] at H; have c3b0 := beq_iff_eq.mpr c3; have c3b1 := bne_eq_false_iff_eq.mpr c3; clear c3; obtain rfl := Option.some.inj H
  go_enter Tryz.func225, Tryz.ntmps225
  go_wp2
  go_ret
  exact ⟨cl, d0⟩
 rw [if_neg c3] at H; have c3b0 := beq_eq_false_iff_ne.mpr c3; have c3b1 := bne_iff_ne.mpr c3
 by_cases c4 : a0 = 13
 ·rw [if_pos c4] at H; have c4b0 := beq_iff_eq.mpr c4; have c4b1 := bne_eq_false_iff_eq.mpr c4; clear c4; obtain rfl := Option.some.inj H
  go_enter Tryz.func225, Tryz.ntmps225
  go_wp2
  go_ret
  exact ⟨cl, d0⟩
 rw [if_neg c4] at H; have c4b0 := beq_eq_false_iff_ne.mpr c4; have c4b1 := bne_iff_ne.mpr c4; obtain rfl := Option.some.inj H
 go_enter Tryz.func225, Tryz.ntmps225
 go_wp2
 go_ret
 exact ⟨cl, d0⟩

def b64_bare.l0 : Nat → ByteArray → List Int → Int → Int → Option (ByteArray)
 | 0, _, _, _, _ => none
 | k + 1, x0, x3, x6, x7 => if x7 < x6 then (if 0 ≤ x7 then (if x7 < (x0.size : Int) then ((b64_white.f (bt x0 x7)).bind fun t164 => (if t164 = true then (b64_bare.l0 k x0 x3 x6 (wrap64 (x7 + 1))) else (if x3.length < 140737488355328 then (b64_bare.l0 k x0 (x3 ++ [bt x0 x7]) x6 (wrap64 (x7 + 1))) else (none)))) else (none)) else (none)) else (some (strOfNums x3))
def b64_bare.f (k : Nat) (a0 : ByteArray) : Option (ByteArray) := b64_bare.l0 k a0 ([] : List Int) (a0.size : Int) 0
set_option maxHeartbeats 8000000 in
set_option maxRecDepth 100000 in
theorem b64_bare.calls (k : Nat) (a0 : ByteArray) (r : ByteArray) (w : World) (h : b64_bare.f k a0 = some r) :
  Calls Tryz.prog 210 #[.string a0] w fun e w' => e = .returned (.string r) ∧ Below w.heap.size w w' := by
 have HB := Aside0.mk (Below.refl w.heap.size w); have H : (b64_bare.l0 k a0 ([] : List Int) (a0.size : Int) 0) = some r := h; clear h; have H' := Aside0.mk H; clear H
 go_enter Tryz.func210, Tryz.ntmps210
 go_wp2
 go_loopg [3, 7] k (fun kq v3 v7 w' => ∃ (x3_1 : List Int) (x7_1 : Int), v7 = .int .i64 x7_1 ∧ Aside0 (b64_bare.l0 kq a0 x3_1 (a0.size : Int) x7_1 = some r) ∧ Aside0 (kq ≤ k) ∧ Aside0 (Kd.R (Kd.int .u8) 5 w' w.heap.size (fun _ => True) v3 x3_1) ∧ Aside0 (Below w.heap.size w w'))
 case atStart => exact ⟨(([] : List Int)), (0), cl, H', ⟨Nat.le_refl _⟩, ⟨by first | exact Kd.R_nil _ _ _ _ _ | exact Kd.N_nil _ _ _ _ _ | exact Kd.V_nil _ _ _ _ _ | exact Kd.Q_nil _ _ _ _ _ | exact Kd.S_nil _ _ _ _ _⟩, ⟨bw⟩⟩
 case round =>
  clear H'; obtain ⟨x3_1, x7_1, rfl, HA, HK1, HO_3, HB⟩ := hrel; cases gk with
  | zero => exact absurd HA.out (by simp [b64_bare.l0])
  | succ k1 =>
   have H := HA.out; clear HA; simp only [b64_bare.l0] at H
   by_cases c2 : x7_1 < (a0.size : Int)
   ·rw [if_pos c2] at H; have c2b0 := decide_eq_true c2; clear c2
    by_cases c3 : 0 ≤ x7_1
    ·rw [if_pos c3] at H; have c3b0 := decide_eq_true c3; clear c3
     by_cases c4 : x7_1 < (a0.size : Int)
     ·rw [if_pos c4] at H; have c4b0 := decide_eq_true c4; clear c4; replace H := Option.bind_eq_some_iff.mp H; obtain ⟨t164, A60, H⟩ := H; have A6 := Aside0.mk A60; clear A60
      by_cases c7 : t164 = true
      ·subst c7; rw [if_pos rfl] at H; have H' := Aside0.mk H; clear H; have p5 : 0 ≤ (x7_1 : Int) := od; have q5 : x7_1 < (a0.size : Int) := od; have hx5 := bt_at a0 x7_1; replace p5 := eq_true p5; replace q5 := eq_true q5
       go_wp2_with (first | ((with_reducible refine gate_callee (f := 225) rfl ?_); refine goesL_ (some 13) rfl rfl Tryz.func225 (by kernel_rfl) rfl #[.int .u8 (bt a0 x7_1)] rfl am ?_; (with_reducible refine (b64_white.calls (bt a0 x7_1) true _ A6.out).mono ?_); rintro e w' ⟨rfl, ⟨nd, rfl⟩⟩; refine ⟨_, rfl, ?_⟩))
       go_roundg k1
       case measure => have := HK1.out; omega
       case rel => exact ⟨(x3_1), (wrap64 (x7_1 + 1)), cl, H', ⟨by have := HK1.out; omega⟩, ⟨ra HO_3.out⟩, ⟨bw⟩⟩
      replace c7 := Bool.eq_false_iff.mpr c7; subst c7; rw [if_neg nft] at H
      by_cases c9 : x3_1.length < 140737488355328
      ·rw [if_pos c9] at H; have LMc9 := Aside0.mk c9; clear c9; obtain ⟨y165, hy165⟩ : ∃ y_ : List Int, y_ = (x3_1 ++ [bt a0 x7_1]) := ⟨_, rfl⟩
       replace H : (b64_bare.l0 k1 a0 y165 (a0.size : Int) (wrap64 (x7_1 + 1))) = some r := by first | (rw [hy165]; with_reducible exact H) | (have H2_ := (Option.bind_some _ _).symm.trans H; rw [hy165]; with_reducible exact H2_) | (have H2_ := (Option.bind_some _ _).symm.trans H; with_reducible exact H2_) | with_reducible exact H | (rw [hy165]; exact H) | exact H
       have Ny165 := Aside0.mk hy165; clear hy165; have H' := Aside0.mk H; clear H; have p5 : 0 ≤ (x7_1 : Int) := od; have q5 : x7_1 < (a0.size : Int) := od; have hx5 := bt_at a0 x7_1; replace p5 := eq_true p5; replace q5 := eq_true q5
       go_wp2_with (first | ((with_reducible refine gate_callee (f := 225) rfl ?_); refine goesL_ (some 13) rfl rfl Tryz.func225 (by kernel_rfl) rfl #[.int .u8 (bt a0 x7_1)] rfl am ?_; (with_reducible refine (b64_white.calls (bt a0 x7_1) false _ A6.out).mono ?_); rintro e w' ⟨rfl, ⟨nd, rfl⟩⟩; refine ⟨_, rfl, ?_⟩; have p8 : 0 ≤ (x7_1 : Int) := od; have q8 : x7_1 < (a0.size : Int) := od; have hx8 := bt_at a0 x7_1; replace p8 := eq_true p8; replace q8 := eq_true q8) | ((with_reducible refine gate_builtin (b := .append) (xs := #[.tmp 15, .tmp 19]) rfl ?_); at_builtin; refine Kd.R_append (Kd.int .u8) (w0 := w) w.heap.size rfl (.tmp 15) (.tmp 19) 125 5 (.int .u8 0) 1 rfl Tryz.underlying125 info5 rfl (by decide) (by omega) u3 x3_1 (bt a0 x7_1) [.int .u8 (bt a0 x7_1)] (fun _ => True) (fun _ => False) rfl rfl ?aP (fun _ hk => hk.elim) ?aF ?aO ?aB ?aS ?aL ?_; (case aP => exact rfl); (case aB => exact bw); (case aF => exact (fun _ _ => trivial)); (case aO => exact (ra HO_3.out)); (case aS => exact (below_size bw)); (case aL => have := LMc9.out; omega); intro v166 w10 ho hb hg hat; rw [← Ny165.out] at ho; have n0_ := Aside0.mk (hb); have n1_ := Aside0.mk (ho); clear HB; clear HO_3; have HB := n0_; have HO167 := n1_; clear n0_ n1_; clear ho hb hg hat))
       go_roundg k1
       case measure => have := HK1.out; omega
       case rel => exact ⟨(y165), (wrap64 (x7_1 + 1)), cl, H', ⟨by have := HK1.out; omega⟩, ⟨ra HO167.out⟩, ⟨bw⟩⟩
      rw [if_neg c9] at H; exact absurd H (by simp)
     rw [if_neg c4] at H; exact absurd H (by simp)
    rw [if_neg c3] at H; exact absurd H (by simp)
   rw [if_neg c2] at H; have c2b0 := decide_eq_false c2; clear c2; obtain rfl := Option.some.inj H; have hcv11 := own_string (P := Tryz.prog) Tryz.underlying125 Tryz.underlying5 Tryz.underlying9 (Kd.own_of_R HO_3.out)
   go_wp2
   go_ret
   exact ⟨ew, bw⟩

end Go.Proofs.YtihabmcaplnbcaaGreatDoor.Fn
set_option linter.unusedVariables false
namespace Go.Proofs.YtihabmcaplnbcaaGreatDoor.Pl
open Go.RowKit Go.Proofs.YtihabmcaplnbcaaGreatDoorW.PrintWords

/-! Tools for the plain laws: byte texts as lists, rounds. -/
def bs (s : ByteArray) : Bytes := s.data.toList
theorem bs_str (l : Bytes) : bs (str l) = l := str_data l
theorem str_bs (s : ByteArray) : str (bs s) = s := str_toList s
theorem bs_length (s : ByteArray) : (bs s).length = s.size := data_length s
theorem toList_bs (s : ByteArray) : s.toList = bs s := ByteArray.toList_eq s
theorem toList_str (l : Bytes) : (str l).toList = l := by rw [toList_bs, bs_str]
theorem bs_inj {a b : ByteArray} (h : bs a = bs b) : a = b := by rw [← str_bs a, ← str_bs b, h]
theorem str_app (a b : Bytes) : str a ++ str b = str (a ++ b) := by
 apply bs_inj
 simp [bs, str]
theorem bs_app (a b : ByteArray) : bs (a ++ b) = bs a ++ bs b := by simp [bs]
theorem bs_extract (s : ByteArray) (i j : Nat) : bs (s.extract i j) = ((bs s).take j).drop i := by
 simp [bs, List.extract_eq_take_drop, List.drop_take]
theorem bt_nat (s : ByteArray) (i : Nat) (h : i < s.size) : bt s (i : Int) = (s[i].toNat : Int) := by
 have := bt_at s (i : Int) (by simpa using h)
 simpa using this.symm
theorem bt_bs (s : ByteArray) (i : Nat) (h : i < (bs s).length) : bt s (i : Int) = ((bs s)[i].toNat : Int) := by
 rw [bt_nat s i (by rw [bs_length] at h; exact h)]
 rfl
theorem bt_str (l : Bytes) (i : Nat) (h : i < l.length) : bt (str l) (i : Int) = (l[i].toNat : Int) := by
 rw [bt_bs (str l) i (by rw [bs_str]; exact h)]
 simp [bs_str]
theorem drop_cons {l : Bytes} {i : Nat} {c : UInt8} {r : Bytes} (h : l.drop i = c :: r) : i < l.length ∧ l[i]? = some c ∧ l.drop (i + 1) = r ∧ (l.take (i + 1)) = l.take i ++ [c] := by
 have hi : i < l.length := by
  rcases Nat.lt_or_ge i l.length with h' | h'
  ·exact h'
  rw [List.drop_of_length_le h'] at h; cases h
 have h1 : l[i]? = some c := by
  have := congrArg List.head? h
  rw [List.head?_drop] at this
  exact this
 refine ⟨hi, h1, ?_, ?_⟩
 ·rw [← List.drop_drop, h]; rfl
 rw [List.take_add_one, h1]; rfl
theorem drop_nil {l : Bytes} {i : Nat} (h : l.drop i = []) : l.length ≤ i := by
 have := congrArg List.length h
 simp at this
 omega
theorem bt_drop {s : ByteArray} {i : Nat} {c : UInt8} {r : Bytes} (h : (bs s).drop i = c :: r) : bt s (i : Int) = (c.toNat : Int) := by
 obtain ⟨h1, h2, _⟩ := drop_cons h
 rw [bt_bs s i h1]
 rw [List.getElem?_eq_getElem h1] at h2
 injection h2 with h2
 rw [h2]
theorem wrap_id {x : Int} (h0 : -9223372036854775808 ≤ x) (h1 : x ≤ 9223372036854775807) : wrap64 x = x := by
 unfold wrap64
 omega
theorem wrap_succ (i : Nat) (h : i ≤ 140737488355328) : wrap64 ((i : Int) + 1) = ((i + 1 : Nat) : Int) := by
 rw [wrap_id (by omega) (by omega)]
 omega
theorem byte_lt (c : UInt8) : c.toNat < 256 := c.toNat_lt
theorem extract_one {s : ByteArray} {i : Nat} {c : UInt8} {r : Bytes} (h : (bs s).drop i = c :: r) : s.extract i (i + 1) = str [c] := by
 apply bs_inj
 rw [bs_extract, bs_str, (drop_cons h).2.2.2, List.drop_append_of_le_length (by rw [List.length_take]; have := (drop_cons h).1; omega)]
 have := (drop_cons h).1
 simp [List.drop_eq_nil_of_le, Nat.min_eq_left (Nat.le_of_lt this)]
theorem ofNat_toNat (c : UInt8) : UInt8.ofNat c.toNat = c := by simp
theorem nums_one (n : Int) : strOfNums [n] = str [UInt8.ofNat n.toNat] := rfl
end Go.Proofs.YtihabmcaplnbcaaGreatDoor.Pl
set_option linter.unusedVariables false
set_option linter.unusedSimpArgs false
namespace Go.Proofs.YtihabmcaplnbcaaGreatDoor.Fn
open Go.RowKit Go.Proofs.YtihabmcaplnbcaaGreatDoorW.PrintWords

theorem bd_below {B b : Nat} {l : List Value} {W W' : World} (h : isBd B b l W) (hb : Below W.heap.size W W') : isBd B b l W' := by
 rcases h with h | h
 ·refine .inl ?_
  have hl := h.lt
  obtain ⟨h1, v, h2, h3, h4⟩ := h
  exact ⟨h1, v, (hb.block b hl).trans h2, h3.kept (row := none) ⟨hb.os, hb.tape, hb.output, hb.size, fun k hk _ => hb.block k hk⟩ (Classical.em _), h4⟩
 refine .inr ?_
 have hl := h.lt
 obtain ⟨h1, v, h2, h3, h4⟩ := h
 exact ⟨h1, v, (hb.block b hl).trans h2, h3.kept (row := none) ⟨hb.os, hb.tape, hb.output, hb.size, fun k hk _ => hb.block k hk⟩ (Classical.em _), h4⟩
theorem bd_lt {B b : Nat} {l : List Value} {W : World} (h : isBd B b l W) : b < W.heap.size := by
 rcases h with h | h <;> exact h.lt
def strLen : Value → Nat | .string s => s.size | _ => 0
theorem toList_ne {s : ByteArray} (h : s.toList = ([] : List UInt8)) : (s.toList == ([] : List UInt8)) = true ∧ (s.toList != ([] : List UInt8)) = false := ⟨beq_iff_eq.mpr h, bne_eq_false_iff_eq.mpr h⟩
theorem toList_ne' {s : ByteArray} (h : ¬ s.toList = ([] : List UInt8)) : (s.toList == ([] : List UInt8)) = false ∧ (s.toList != ([] : List UInt8)) = true := ⟨beq_eq_false_iff_ne.mpr h, bne_iff_ne.mpr h⟩

end Go.Proofs.YtihabmcaplnbcaaGreatDoor.Fn
set_option linter.unusedVariables false
namespace Go.Proofs.YtihabmcaplnbcaaGreatDoor.Fn
open Go.RowKit Go.Proofs.YtihabmcaplnbcaaGreatDoorW.PrintWords

/-! Bits of small numbers. -/
theorem i64_small (n : Int) (h0 : 0 ≤ n) (h1 : n < 2 ^ 62) : IntKind.i64.wrap n = n := by
 rw [i64w_]
 unfold wrap64
 have e : (2 : Int) ^ 62 = 4611686018427387904 := by decide
 omega
theorem or_i64 (i : Nat) (x y : Int) (hx0 : 0 ≤ x) (hx : x % 2 ^ i = 0) (hx1 : x < 2 ^ 62) (hy0 : 0 ≤ y) (hy : y < 2 ^ i) (hy1 : y < 2 ^ 62) : bits .or .i64 x y = x + y :=
 bits_join .i64 62 (by decide) i64_small i x y hx0 hx hx1 hy0 hy hy1
theorem and_i64 (i : Nat) (x : Int) (hi : i ≤ 61) (hx0 : 0 ≤ x) (hx1 : x < 2 ^ 62) : bits .and .i64 x (2 ^ i - 1) = x % 2 ^ i := by
 obtain ⟨a, rfl⟩ := Int.eq_ofNat_of_zero_le hx0
 have ha : a < 2 ^ 62 := by exact_mod_cast hx1
 have h2 : 2 ^ i < 2 ^ 62 := Nat.pow_lt_pow_right (by decide) (by omega)
 have h3 : 0 < 2 ^ i := Nat.two_pow_pos i
 have e : ((2 : Int) ^ i - 1) = ((2 ^ i - 1 : Nat) : Int) := by
  rw [Int.ofNat_sub (by omega)]
  simp
 rw [e, (bits_nat .i64 62 (by decide) i64_small a (2 ^ i - 1) ha (by omega)).1, Nat.and_two_pow_sub_one_eq_mod]
 simp
end Go.Proofs.YtihabmcaplnbcaaGreatDoor.Fn
set_option linter.unusedVariables false
namespace Go.Proofs.YtihabmcaplnbcaaGreatDoor.Pl
open Go.RowKit Go.Proofs.YtihabmcaplnbcaaGreatDoorW.PrintWords

/-! Texts of good signs: what their signs are is read again. -/
def okR (r : Nat) : Prop := r < 55296 ∨ (57344 ≤ r ∧ r ≤ 1114111)
def er (r : Nat) : Bytes := Lib.encodeRune (r : Int)
def enc (rs : List Nat) : Bytes := rs.flatMap er
end Go.Proofs.YtihabmcaplnbcaaGreatDoor.Pl
namespace Go.Proofs.YtihabmcaplnbcaaGreatDoor.Fn
open Go.RowKit Go.Proofs.YtihabmcaplnbcaaGreatDoorW.PrintWords Go.Proofs.YtihabmcaplnbcaaGreatDoorW.PrintLast Go.Proofs.YtihabmcaplnbcaaGreatDoorW.PrintMore
attribute [local go_sem] max2_int min2_int max_two min_two max_three min_three max_four min_four
set_option linter.unusedVariables false
set_option linter.unusedSimpArgs false
end Go.Proofs.YtihabmcaplnbcaaGreatDoor.Fn
set_option linter.unusedVariables false
namespace Go.Proofs.YtihabmcaplnbcaaGreatDoor.Pl
def plainR (r : Nat) : Bool := decide (32 ≤ r) && decide (r ≤ 126)
def plainFrom (s : ByteArray) : Nat → Nat → Bool
 | 0, _ => true
 | f + 1, pos => if pos < s.size then (if plainR (Utf8.decode s pos).1 = true then plainFrom s f (pos + (Utf8.decode s pos).2) else false) else true
def plain (s : ByteArray) : Bool := plainFrom s s.size 0
end Go.Proofs.YtihabmcaplnbcaaGreatDoor.Pl
namespace Go.Proofs.YtihabmcaplnbcaaGreatDoor.Fn
open Go.RowKit Go.Proofs.YtihabmcaplnbcaaGreatDoorW.PrintWords

end Go.Proofs.YtihabmcaplnbcaaGreatDoor.Fn
set_option linter.unusedVariables false
namespace Go.Proofs.YtihabmcaplnbcaaGreatDoor.Pl
def badAt (s : ByteArray) (pos : Nat) : Bool := (Utf8.decode s pos).1 == 65533 && (Utf8.decode s pos).2 == 1
def validFrom (s : ByteArray) : Nat → Nat → Bool
 | 0, _ => true
 | f + 1, pos => if pos < s.size then (if badAt s pos = true then false else validFrom s f (pos + (Utf8.decode s pos).2)) else true
def valid (s : ByteArray) : Bool := validFrom s s.size 0
end Go.Proofs.YtihabmcaplnbcaaGreatDoor.Pl
namespace Go.Proofs.YtihabmcaplnbcaaGreatDoor.Fn
open Go.RowKit Go.Proofs.YtihabmcaplnbcaaGreatDoorW.PrintWords

def glyph_Valid.f (a0 : ByteArray) : Option Bool := if a0.size ≤ 35184372088832 then some (Pl.valid a0) else none

set_option maxHeartbeats 4000000 in
set_option maxRecDepth 100000 in
theorem glyph_bad_calls (a0 : ByteArray) (at_ : Nat) (w : World) (hG : Glob w) (hat : at_ < a0.size) (hs : a0.size ≤ 35184372088832) :
  Calls Tryz.prog 212 #[.string a0, .int .i64 at_, .int .i32 (Utf8.decode a0 at_).1] w fun e w' => e = .returned (.bool (Pl.badAt a0 at_)) ∧ Below w.heap.size w w' := by
 have HG := hid hG.tabs
 have hT : Lib.decodeGo (a0.extract at_ a0.size) = Utf8.decode a0 at_ := by
  unfold Lib.decodeGo
  rw [if_neg (by rw [Lib.tail_size]; omega), Lib.tail_decode, Nat.add_zero]
 by_cases h1 : (Utf8.decode a0 at_).1 = 65533
 ·have hb : Pl.badAt a0 at_ = ((Utf8.decode a0 at_).2 == 1) := by unfold Pl.badAt; rw [h1]; rfl
  have hi : (((Utf8.decode a0 at_).2 : Int) == 1) = ((Utf8.decode a0 at_).2 == 1) := by
   rw [Bool.eq_iff_iff, beq_iff_eq, beq_iff_eq]
   omega
  rw [hb, h1]
  have hle : ((at_ : Int) ≤ (a0.size : Int)) = True := eq_true (by omega)
  go_enter Tryz.func212, Tryz.ntmps212
  go_wp2_with (go_at_call 158; refine (Tryz.utf8_DecodeRuneInString (a0.extract at_ a0.size) _ HG.out).mono ?_; rintro e W1 ⟨rfl, b1⟩; rw [hT])
  go_ret
  exact ⟨by rw [← hi]; rfl, b1⟩
 have hb : Pl.badAt a0 at_ = false := by unfold Pl.badAt; simp [h1]
 have hn : (((Utf8.decode a0 at_).1 : Int) != 65533) = true := by rw [bne_iff_ne]; omega
 have hn2 : (((Utf8.decode a0 at_).1 : Int) = 65533) = False := eq_false (by omega)
 rw [hb]
 go_enter Tryz.func212, Tryz.ntmps212
 go_wp2
 go_ret
 exact ⟨rfl, Below.refl _ _⟩

set_option maxHeartbeats 4000000 in
set_option maxRecDepth 100000 in
theorem glyph_Valid.calls (a0 : ByteArray) (r : Bool) (w : World) (hG : Glob w) (h : glyph_Valid.f a0 = some r) :
  Calls Tryz.prog 188 #[.string a0] w fun e w' => e = .returned (.bool r) ∧ Below w.heap.size w w' := by
 unfold glyph_Valid.f at h
 by_cases hs : a0.size ≤ 35184372088832
 ·rw [if_pos hs] at h
  have HR := hid (Option.some.inj h)
  have HG := hid hG
  clear h hG
  go_enter Tryz.func188, Tryz.ntmps188
  go_wp2
  go_loopw [] (fun wr => ∃ (pos fuel : Nat), wr.heap[w.heap.size]? = some (.stringIter a0 pos) ∧ Below w.heap.size w wr ∧ Hid (Pl.validFrom a0 fuel pos = r) ∧ a0.size ≤ pos + fuel) (fun wr => a0.size - wr.iterPos w.heap.size)
  case atStart =>
   refine ⟨0, a0.size, ?_, (Below.refl _ w).alloc (by simp) _, HR.out, by omega⟩
   have := World.iter_heap w a0 0
   simpa using this
  case round =>
   obtain ⟨pos, fuel, hit, hbw, hacc, hfu⟩ := hrel
   have hsz : w.heap.size < wr.heap.size := (Array.getElem?_eq_some_iff.1 hit).1
   by_cases hp : pos < a0.size
   ·have hnx : ∀ ty, (Instr.next (.pointer (some ⟨w.heap.size, 0, none⟩)) true ty).run Tryz.prog wr = _ := fun ty => Lib.run_next_any_at wr w.heap.size a0 pos ty hit hp
    have hwd : 1 ≤ (Utf8.decode a0 pos).2 := Pl.width_pos a0 pos hp
    have hit2 := Lib.iterAt_heap wr w.heap.size a0 pos (pos + (Utf8.decode a0 pos).2) hit
    have hbw2 := Lib.below_iterAt hbw (k := w.heap.size) (by omega) a0 (pos + (Utf8.decode a0 pos).2)
    have HG2 := hid (HG.out.below hbw2)
    obtain ⟨f, rfl⟩ : ∃ f, fuel = f + 1 := ⟨fuel - 1, by omega⟩
    have HC := hid (glyph_bad_calls a0 pos _ HG2.out hp hs)
    cases hc : Pl.badAt a0 pos with
    | false =>
     have hstep : Hid (Pl.validFrom a0 f (pos + (Utf8.decode a0 pos).2) = r) := by
      have := hacc.out
      rw [Pl.validFrom, if_pos hp, hc, if_neg (by decide)] at this
      exact this
     clear hacc
     go_wp2_with (go_at_call 212; refine HC.out.mono ?_; rintro e W0 ⟨rfl, b0⟩; rw [hc])
     go_roundw
     case rel =>
      refine ⟨pos + (Utf8.decode a0 pos).2, f, ?_, hbw2.trans (b0.mono (by rw [Lib.iterAt_size]; omega)), hstep, by omega⟩
      rw [b0.block w.heap.size (by rw [Lib.iterAt_size]; exact hsz)]
      exact hit2
     case measure =>
      have hit3 : W0.heap[w.heap.size]? = some (.stringIter a0 (pos + (Utf8.decode a0 pos).2)) := by
       rw [b0.block w.heap.size (by rw [Lib.iterAt_size]; exact hsz)]
       exact hit2
      simp only [World.iterPos, hit3, hit]
      omega
    | true =>
     have hstep : Hid (false = r) := by
      have := hacc.out
      rw [Pl.validFrom, if_pos hp, hc, if_pos rfl] at this
      exact this
     clear hacc
     go_wp2_with (go_at_call 212; refine HC.out.mono ?_; rintro e W0 ⟨rfl, b0⟩; rw [hc])
     go_ret
     exact ⟨by rw [← hstep.out]; rfl, hbw2.trans (b0.mono (by rw [Lib.iterAt_size]; omega))⟩
   have hnx : ∀ ty, (Instr.next (.pointer (some ⟨w.heap.size, 0, none⟩)) true ty).run Tryz.prog wr = _ := fun ty => Lib.run_next_end_at wr w.heap.size a0 pos ty hit hp
   have hend : Hid (r = true) := by
    have := hacc.out
    show _ = _
    cases fuel with
    | zero => rw [Pl.validFrom] at this; exact this.symm
    | succ f => rw [Pl.validFrom, if_neg hp] at this; exact this.symm
   clear hacc
   go_wp2
   go_ret
   exact ⟨by rw [hend.out]; rfl, hbw⟩
 rw [if_neg hs] at h
 exact absurd h (by simp)
end Go.Proofs.YtihabmcaplnbcaaGreatDoor.Fn
set_option linter.unusedVariables false
namespace Go.Proofs.YtihabmcaplnbcaaGreatDoor.Pl
open Go.RowKit Go.Proofs.YtihabmcaplnbcaaGreatDoorW.PrintWords

/-! Layer 19 (and what it asks of 17 and 18), over lists of bytes: definitions. -/
def rawFrom (s : ByteArray) : Nat → Nat → List Nat
 | 0, _ => []
 | f + 1, pos => if pos < s.size then (Utf8.decode s pos).1 :: rawFrom s f (pos + (Utf8.decode s pos).2) else []
def hexD (c : UInt8) : Option Nat := if 48 ≤ c.toNat ∧ c.toNat ≤ 57 then some (c.toNat - 48) else if 65 ≤ c.toNat ∧ c.toNat ≤ 70 then some (c.toNat - 55) else if 97 ≤ c.toNat ∧ c.toNat ≤ 102 then some (c.toNat - 87) else none
def hexB (a b : UInt8) : Option UInt8 := (hexD a).bind fun x => (hexD b).bind fun y => some (UInt8.ofNat (16 * x + y))
def quotedF : Nat → Bytes → Option Bytes
 | 0, _ => some []
 | _ + 1, [] => some []
 | f + 1, c :: r => if c = 95 then (quotedF f r).map (32 :: ·) else if c = 61 then (if 2 ≤ r.length then (hexB (r.getD 0 0) (r.getD 1 0)).bind fun x => (quotedF f (r.drop 2)).map (x :: ·) else none) else (quotedF f r).map (c :: ·)
def quotedL (l : Bytes) : Option Bytes := quotedF l.length l
def b64C (n : Nat) : UInt8 := if n < 26 then UInt8.ofNat (65 + n) else if n < 52 then UInt8.ofNat (71 + n) else if n < 62 then UInt8.ofNat (n - 4) else if n = 62 then 43 else 47
def grp (a b c : Nat) : Bytes := [b64C ((a * 65536 + b * 256 + c) / 262144 % 64), b64C ((a * 65536 + b * 256 + c) / 4096 % 64), b64C ((a * 65536 + b * 256 + c) / 64 % 64), b64C ((a * 65536 + b * 256 + c) % 64)]
def b64P : Bytes → Bytes
 | [] => []
 | [a] => (grp a.toNat 0 0).take 2 ++ [61, 61]
 | [a, b] => (grp a.toNat b.toNat 0).take 3 ++ [61]
 | a :: b :: c :: r => grp a.toNat b.toNat c.toNat ++ b64P r
def b64V (c : UInt8) : Option Nat := if 65 ≤ c.toNat ∧ c.toNat ≤ 90 then some (c.toNat - 65) else if 97 ≤ c.toNat ∧ c.toNat ≤ 122 then some (c.toNat - 71) else if 48 ≤ c.toNat ∧ c.toNat ≤ 57 then some (c.toNat + 4) else if c = 43 then some 62 else if c = 47 then some 63 else none
def b64D : Bytes → Nat → Nat → Bytes → Option Bytes
 | [], _, _, acc => some acc
 | c :: r, h, n, acc => (b64V c).bind fun k => if 8 ≤ n + 6 then b64D r ((h * 64 + k) % 2 ^ (n - 2)) (n - 2) (acc ++ [UInt8.ofNat ((h * 64 + k) / 2 ^ (n - 2))]) else b64D r (h * 64 + k) (n + 6) acc
def whiteC (c : UInt8) : Bool := c == 32 || (c == 9 || (c == 13 || c == 10))
def bareL (l : Bytes) : Bytes := l.filter fun c => !whiteC c
def b64L (l : Bytes) : Option Bytes := (b64D (Lib.trimRightS (bareL l) [61]) 0 0 []).bind fun b => if b64P b = bareL l then some b else none

def solidL (l : Bytes) : Bool := l.all fun c => decide (33 ≤ c.toNat) && decide (c.toNat ≤ 126)
def octL (k t : Bytes) : Option Bytes := if k = [113] ∨ k = [81] then quotedL t else if k = [98] ∨ k = [66] then b64L t else none
def asciiL (l : Bytes) : Bool := l.all fun c => decide (c.toNat ≤ 127)
def signsL (cs s : Bytes) : Option Bytes :=
 if fold cs = [117, 115, 45, 97, 115, 99, 105, 105] then (if asciiL s = true then some s else none)
 else if fold cs = [117, 116, 102, 45, 56] then (if valid (str s) = true then some s else none)
 else if fold cs = [105, 115, 111, 45, 56, 56, 53, 57, 45, 49] then some (s.flatMap fun c => er c.toNat)
 else none
def upQ : Bytes → Option (Bytes × Bytes)
 | [] => none
 | c :: r => if c = 63 then some ([], r) else (upQ r).map fun x => (c :: x.1, x.2)
def ewN (a k t : Bytes) : Nat := 2 + a.length + 1 + k.length + 1 + t.length + 2
def wordL (s : Bytes) : Option (Bytes × Nat) :=
 if s.take 2 = [61, 63] then
  (upQ (s.drop 2)).bind fun a => (upQ a.2).bind fun k => (upQ k.2).bind fun t =>
   if (a.1 ≠ [] ∧ solidL a.1 = true ∧ solidL t.1 = true ∧ t.2.take 1 = [61]) ∧ ewN a.1 k.1 t.1 ≤ 75 then
    (octL k.1 t.1).bind fun b => (signsL a.1 b).bind fun x => some (x, ewN a.1 k.1 t.1) else none
 else none
def trimB (l : Bytes) : Bytes := Lib.trimLeftS l [32, 9]
def decL : Nat → Bytes → Bytes → Bytes
 | 0, _, acc => acc
 | _ + 1, [], acc => acc
 | f + 1, c :: r, acc => match wordL (c :: r) with
  | none => decL f r (acc ++ [c])
  | some x => decL f (if (wordL (trimB ((c :: r).drop x.2))).isSome = true then trimB ((c :: r).drop x.2) else (c :: r).drop x.2) (acc ++ x.1)
def decodeL (l : Bytes) : Bytes := decL l.length l []
end Go.Proofs.YtihabmcaplnbcaaGreatDoor.Pl
set_option linter.unusedVariables false
namespace Go.Proofs.YtihabmcaplnbcaaGreatDoor.Fn
open Go.RowKit Go.Proofs.YtihabmcaplnbcaaGreatDoorW.PrintWords

def strings_Repeat.f (a0 : ByteArray) (a1 : Int) : Option ByteArray := if 0 ≤ a1 ∧ a1 ≤ 1000000 ∧ a0.size ≤ 1000000 then some (Pl.str (Lib.repeatL a0.data.toList a1.toNat)) else none
theorem strings_Repeat.calls (a0 : ByteArray) (a1 : Int) (r : ByteArray) (w : World) (h : strings_Repeat.f a0 a1 = some r) :
  Calls Tryz.prog 230 #[.string a0, .int .i64 a1] w fun e w' => e = .returned (.string r) ∧ Below w.heap.size w w' := by
 unfold strings_Repeat.f at h
 by_cases hs : 0 ≤ a1 ∧ a1 ≤ 1000000 ∧ a0.size ≤ 1000000
 ·rw [if_pos hs] at h
  have HR := Option.some.inj h
  subst HR
  obtain ⟨n, rfl⟩ : ∃ n : Nat, a1 = n := ⟨a1.toNat, by omega⟩
  have h1 : a0.size * n ≤ 1000000 * 1000000 := Nat.mul_le_mul (by omega) (by omega)
  exact Tryz.strings_Repeat a0 n w (by omega) (by omega)
 rw [if_neg hs] at h; exact absurd h (by simp)
end Go.Proofs.YtihabmcaplnbcaaGreatDoor.Fn
set_option linter.unusedVariables false
set_option linter.unusedSimpArgs false
namespace Go.Proofs.YtihabmcaplnbcaaGreatDoor.Fn
open Go.RowKit Go.Proofs.YtihabmcaplnbcaaGreatDoorW.PrintWords

def b64_group.f (a0 : ByteArray) : Option ByteArray := if 1 ≤ a0.size ∧ a0.size ≤ 3 then some (Pl.str (Pl.b64P (Pl.bs a0))) else none
def gN (l : List UInt8) : Nat → Nat
 | 0 => 0
 | i + 1 => gN l i * 256 + (l.getD i 0).toNat
def arrG (c0 c1 c2 c3 : Int) : Nat → Array Value
 | 0 => #[.int .u8 0, .int .u8 0, .int .u8 0, .int .u8 0]
 | 1 => #[.int .u8 0, .int .u8 0, .int .u8 0, .int .u8 c0]
 | 2 => #[.int .u8 0, .int .u8 0, .int .u8 c1, .int .u8 c0]
 | 3 => #[.int .u8 0, .int .u8 c2, .int .u8 c1, .int .u8 c0]
 | _ => #[.int .u8 c3, .int .u8 c2, .int .u8 c1, .int .u8 c0]
def letA : ByteArray := ByteArray.mk #[65, 66, 67, 68, 69, 70, 71, 72, 73, 74, 75, 76, 77, 78, 79, 80, 81, 82, 83, 84, 85, 86, 87, 88, 89, 90, 97, 98, 99, 100, 101, 102, 103, 104, 105, 106, 107, 108, 109, 110, 111, 112, 113, 114, 115, 116, 117, 118, 119, 120, 121, 122, 48, 49, 50, 51, 52, 53, 54, 55, 56, 57, 43, 47]
theorem let_at : ∀ (n : Fin 64) h, ((letA)[n.val]'h).toNat = (Pl.b64C n.val).toNat := by decide +kernel
theorem gN_lt (l : List UInt8) : ∀ i, gN l i < 256 ^ i
 | 0 => by simp [gN]
 | i + 1 => by
  have := gN_lt l i
  have h2 := (l.getD i 0).toNat_lt
  rw [gN, Nat.pow_succ]
  omega
theorem list1 {l : List UInt8} (h : l.length = 1) : ∃ x, l = [x] := by
 match l, h with
 | [x], _ => exact ⟨x, rfl⟩
theorem list2 {l : List UInt8} (h : l.length = 2) : ∃ x y, l = [x, y] := by
 match l, h with
 | [x, y], _ => exact ⟨x, y, rfl⟩
theorem list3 {l : List UInt8} (h : l.length = 3) : ∃ x y z, l = [x, y, z] := by
 match l, h with
 | [x, y, z], _ => exact ⟨x, y, z, rfl⟩
set_option maxHeartbeats 4000000 in
set_option maxRecDepth 100000 in
theorem b64_group.calls (a0 r : ByteArray) (w : World) (h : b64_group.f a0 = some r) :
  Calls Tryz.prog 226 #[.string a0] w fun e w' => e = .returned (.string r) ∧ Below w.heap.size w w' := by
 unfold b64_group.f at h
 by_cases hs : 1 ≤ a0.size ∧ a0.size ≤ 3
 ·rw [if_pos hs] at h
  have HR := hid (Option.some.inj h)
  obtain ⟨hs0, hs1⟩ := hs
  clear h
  go_enter Tryz.func226, Tryz.ntmps226
  go_wp2
  go_loopw [3, 7] (fun v3 v7 wr => ∃ i : Nat, i ≤ 3 ∧ v7 = .int .i64 i ∧ v3 = .int .i64 (gN (Pl.bs a0) i) ∧ wr = w) (fun v3 v7 _ => 3 - (intOf v7).toNat)
  case atStart => exact ⟨0, Nat.zero_le _, rfl, rfl, rfl⟩
  case round =>
   obtain ⟨i, hi, rfl, rfl, rfl⟩ := hrel
   by_cases hlt : i < 3
   ·obtain ⟨g, hg⟩ : ∃ g, gN (Pl.bs a0) i = g := ⟨_, rfl⟩
    have hg2 : g < 65536 := by
     have h1 := gN_lt (Pl.bs a0) i
     have h2 : 256 ^ i ≤ 256 ^ 2 := Nat.pow_le_pow_right (by decide) (by omega)
     rw [hg] at h1
     omega
    have hstep : gN (Pl.bs a0) (i + 1) = g * 256 + ((Pl.bs a0).getD i 0).toNat := by rw [gN, hg]
    rw [hg]
    have e1 : IntKind.i64.wrap ((g : Int) * 256) = (g : Int) * 256 := i64_small _ (by omega) (by omega)
    by_cases hj : i < a0.size
    ·have hct := a0[i].toNat_lt
     have e2 : bits .or .i64 ((g : Int) * 256) (a0[i].toNat : Int) = (g : Int) * 256 + (a0[i].toNat : Int) := or_i64 8 _ _ (by omega) (by omega) (by omega) (by omega) (by omega) (by omega)
     have e3 : Hid (gN (Pl.bs a0) (i + 1) = g * 256 + a0[i].toNat) := by
      show _ = _
      rw [hstep]
      have : (Pl.bs a0).getD i 0 = a0[i] := by
       rw [List.getD_eq_getElem?_getD, List.getElem?_eq_getElem (by rw [Pl.bs_length]; exact hj)]
       rfl
      rw [this]
     clear hg hstep
     go_wp2
     go_roundw
     case rel => exact ⟨i + 1, by omega, by go_num, by rw [e3.out]; simp, by trivial⟩
     case measure => simp [intOf]; omega
    have e3 : Hid (gN (Pl.bs a0) (i + 1) = g * 256) := by
     show _ = _
     rw [hstep, List.getD_eq_getElem?_getD, List.getElem?_eq_none (by rw [Pl.bs_length]; omega)]
     rfl
    clear hg hstep
    go_wp2
    go_roundw
    case rel => exact ⟨i + 1, by omega, by go_num, by rw [e3.out]; simp, by trivial⟩
    case measure => simp [intOf]; omega
   obtain rfl : i = 3 := by omega
   obtain ⟨g, hg⟩ : ∃ g, gN (Pl.bs a0) 3 = g := ⟨_, rfl⟩
   have hg2 : g < 16777216 := by
    have h1 := gN_lt (Pl.bs a0) 3
    rw [hg] at h1
    exact h1
   rw [hg]
   have HGN := hid hg
   clear hg
   go_wp2
   go_loopw [23] (fun v23 W => ∃ i : Nat, i ≤ 4 ∧ v23 = .int .i64 i ∧ W = wr.alloc (.cells (arrG (Pl.b64C (g % 64)).toNat (Pl.b64C (g / 64 % 64)).toNat (Pl.b64C (g / 4096 % 64)).toNat (Pl.b64C (g / 262144 % 64)).toNat i) 220)) (fun v23 _ => 4 - (intOf v23).toNat)
   case atStart => exact ⟨0, Nat.zero_le _, rfl, rfl⟩
   case round =>
    obtain ⟨i, hi, rfl, rfl⟩ := hrel
    obtain ⟨c0, h0⟩ : ∃ c, (Pl.b64C (g % 64)).toNat = c := ⟨_, rfl⟩
    obtain ⟨c1, h1⟩ : ∃ c, (Pl.b64C (g / 64 % 64)).toNat = c := ⟨_, rfl⟩
    obtain ⟨c2, h2⟩ : ∃ c, (Pl.b64C (g / 4096 % 64)).toNat = c := ⟨_, rfl⟩
    obtain ⟨c3, h3⟩ : ∃ c, (Pl.b64C (g / 262144 % 64)).toNat = c := ⟨_, rfl⟩
    rw [h0, h1, h2, h3]
    have a0' : bits .and .i64 (g : Int) 63 = ((g % 64 : Nat) : Int) := by rw [show (63 : Int) = 2 ^ 6 - 1 by decide, and_i64 6 _ (by omega) (by omega) (by omega)]; omega
    have a1' : bits .and .i64 ((g : Int) / 64) 63 = ((g / 64 % 64 : Nat) : Int) := by rw [show (63 : Int) = 2 ^ 6 - 1 by decide, and_i64 6 _ (by omega) (by omega) (by omega)]; omega
    have a2' : bits .and .i64 ((g : Int) / 4096) 63 = ((g / 4096 % 64 : Nat) : Int) := by rw [show (63 : Int) = 2 ^ 6 - 1 by decide, and_i64 6 _ (by omega) (by omega) (by omega)]; omega
    have a3' : bits .and .i64 ((g : Int) / 262144) 63 = ((g / 262144 % 64 : Nat) : Int) := by rw [show (63 : Int) = 2 ^ 6 - 1 by decide, and_i64 6 _ (by omega) (by omega) (by omega)]; omega
    obtain ⟨m0, q0⟩ : ∃ m, g % 64 = m := ⟨_, rfl⟩
    obtain ⟨m1, q1⟩ : ∃ m, g / 64 % 64 = m := ⟨_, rfl⟩
    obtain ⟨m2, q2⟩ : ∃ m, g / 4096 % 64 = m := ⟨_, rfl⟩
    obtain ⟨m3, q3⟩ : ∃ m, g / 262144 % 64 = m := ⟨_, rfl⟩
    have l0 : m0 < 64 := by omega
    have l1 : m1 < 64 := by omega
    have l2 : m2 < 64 := by omega
    have l3 : m3 < 64 := by omega
    rw [q0] at a0' h0
    rw [q1] at a1' h1
    rw [q2] at a2' h2
    rw [q3] at a3' h3
    have x0 : ∀ h, (((letA)[m0]'h).toNat : Int) = (c0 : Int) := fun h => by rw [← h0]; exact congrArg (fun n : Nat => (n : Int)) (let_at ⟨m0, l0⟩ h)
    have x1 : ∀ h, (((letA)[m1]'h).toNat : Int) = (c1 : Int) := fun h => by rw [← h1]; exact congrArg (fun n : Nat => (n : Int)) (let_at ⟨m1, l1⟩ h)
    have x2 : ∀ h, (((letA)[m2]'h).toNat : Int) = (c2 : Int) := fun h => by rw [← h2]; exact congrArg (fun n : Nat => (n : Int)) (let_at ⟨m2, l2⟩ h)
    have x3 : ∀ h, (((letA)[m3]'h).toNat : Int) = (c3 : Int) := fun h => by rw [← h3]; exact congrArg (fun n : Nat => (n : Int)) (let_at ⟨m3, l3⟩ h)
    unfold letA at x0 x1 x2 x3
    have Q0 := hid q0
    have Q1 := hid q1
    have Q2 := hid q2
    have Q3 := hid q3
    clear q0 q1 q2 q3
    rcases (show i = 0 ∨ i = 1 ∨ i = 2 ∨ i = 3 ∨ i = 4 by omega) with rfl | rfl | rfl | rfl | rfl
    ·simp only [arrG]
     go_wp2
     go_roundw
     case rel => exact ⟨1, by omega, rfl, rfl⟩
     case measure => simp [intOf]
    ·simp only [arrG]
     go_wp2
     go_roundw
     case rel => exact ⟨2, by omega, rfl, rfl⟩
     case measure => simp [intOf]
    ·simp only [arrG]
     go_wp2
     go_roundw
     case rel => exact ⟨3, by omega, rfl, rfl⟩
     case measure => simp [intOf]
    ·simp only [arrG]
     go_wp2
     go_roundw
     case rel => exact ⟨4, by omega, rfl, rfl⟩
     case measure => simp [intOf]
    simp only [arrG]
    go_wp2
    have H0 := hid h0
    have H1 := hid h1
    have H2 := hid h2
    have H3 := hid h3
    clear h0 h1 h2 h3 x0 x1 x2 x3 a0' a1' a2' a3'
    have hB2 : Below wr.heap.size wr (wr.alloc (.cells #[.int .u8 c3, .int .u8 c2, .int .u8 c1, .int .u8 c0] 220)) := (Below.refl _ wr).alloc (Nat.le_refl _) _
    have hb2 := World.alloc_heap_new wr (.cells #[.int .u8 c3, .int .u8 c2, .int .u8 c1, .int .u8 c0] 220)
    have hlt2 : wr.heap.size < (wr.alloc (.cells #[.int .u8 c3, .int .u8 c2, .int .u8 c1, .int .u8 c0] 220)).heap.size := by simp
    generalize wr.alloc (.cells #[.int .u8 c3, .int .u8 c2, .int .u8 c1, .int .u8 c0] 220) = W2 at hB2 hb2 hlt2
    have w0 : IntKind.i64.wrap 0 = 0 := by decide
    have w1 : IntKind.i64.wrap 1 = 1 := by decide
    have w2 : IntKind.i64.wrap 2 = 2 := by decide
    have w3 : IntKind.i64.wrap 3 = 3 := by decide
    have w4 : IntKind.i64.wrap 4 = 4 := by decide
    have f0 : W2.cell? ⟨wr.heap.size, 0, none⟩ = some (.int .u8 c3) := by rw [Lib.cell_of_heap hb2]; rfl
    have f1 : W2.cell? ⟨wr.heap.size, 1, none⟩ = some (.int .u8 c2) := by rw [Lib.cell_of_heap hb2]; rfl
    have f2 : W2.cell? ⟨wr.heap.size, 2, none⟩ = some (.int .u8 c1) := by rw [Lib.cell_of_heap hb2]; rfl
    have f3 : W2.cell? ⟨wr.heap.size, 3, none⟩ = some (.int .u8 c0) := by rw [Lib.cell_of_heap hb2]; rfl
    rcases (show a0.size = 1 ∨ a0.size = 2 ∨ a0.size = 3 by omega) with hz | hz | hz
    ·obtain ⟨S, hS⟩ : ∃ S, strOfNums [(c3 : Int), (c2 : Int)] = S := ⟨_, rfl⟩
     have hSz : S.size = 2 := by rw [← hS, strOfNums_size]; rfl
     have hcv : ∀ W : World, W.cell? ⟨wr.heap.size, 0, none⟩ = some (.int .u8 (c3 : Int)) → W.cell? ⟨wr.heap.size, 1, none⟩ = some (.int .u8 (c2 : Int)) → (convert 125 9 (.slice (some ⟨wr.heap.size, 0, none⟩) 2 4)).run Tryz.prog W = .ok (.string S) W := fun W g0 g1 => by
      rw [← hS]
      refine run_convert_bytes_arg W 125 5 Tryz.underlying125 Tryz.underlying5 wr.heap.size 0 2 4 [(c3 : Int), (c2 : Int)] rfl (fun j hj => ?_) 9 Tryz.underlying9
      rw [Nat.zero_add]
      exact match j, hj with | 0, _ => g0 | 1, _ => g1
     have hrp : Hid (strings_Repeat.f ⟨#[61]⟩ 2 = some (Pl.str [61, 61])) := rfl
     have hfin : Hid (S ++ Pl.str [61, 61] = r) := by
      show _ = _
      obtain ⟨x, hx⟩ := list1 (l := Pl.bs a0) (by rw [Pl.bs_length, hz])
      have hg : g = x.toNat * 65536 := by
       rw [← HGN.out, hx]
       simp [gN]
       try omega
      rw [← HR.out, hx, ← hS, show Pl.b64P [x] = (Pl.grp x.toNat 0 0).take 2 ++ [61, 61] from rfl]
      have e0 := H0.out
      have e1 := H1.out
      have e2 := H2.out
      have e3 := H3.out
      rw [← Q0.out, hg] at e0
      rw [← Q1.out, hg] at e1
      rw [← Q2.out, hg] at e2
      rw [← Q3.out, hg] at e3
      rw [← e3, ← e2]
      apply Pl.bs_inj
      rw [Pl.bs_app, Pl.bs_str, Pl.bs_str]
      simp [Pl.bs, strOfNums, Pl.grp]
     have hz2 : (S ++ Pl.str [61, 61]).size = 4 := by rw [ByteArray.size_append, hSz, Pl.str_size]; rfl
     clear hS
     go_region_with (go_at_call 230; refine (strings_Repeat.calls ⟨#[61]⟩ 2 _ _ hrp.out).mono ?_; rintro e w' ⟨rfl, hb⟩; have d0 := (hb.cell (p := ⟨wr.heap.size, 0, none⟩) hlt2).trans f0; have d1 := (hb.cell (p := ⟨wr.heap.size, 1, none⟩) hlt2).trans f1)
     all_goals
      go_wp2
      go_ret
      refine ⟨?_, hB2.trans ((⟨rfl, rfl, rfl, Nat.le_refl _, fun _ _ => rfl⟩ : Below wr.heap.size W2 W2.drew).trans (hb.mono (Nat.le_of_lt hlt2)))⟩
      rw [← hfin.out]
      rfl
    ·obtain ⟨S, hS⟩ : ∃ S, strOfNums [(c3 : Int), (c2 : Int), (c1 : Int)] = S := ⟨_, rfl⟩
     have hSz : S.size = 3 := by rw [← hS, strOfNums_size]; rfl
     have hcv : ∀ W : World, W.cell? ⟨wr.heap.size, 0, none⟩ = some (.int .u8 (c3 : Int)) → W.cell? ⟨wr.heap.size, 1, none⟩ = some (.int .u8 (c2 : Int)) → W.cell? ⟨wr.heap.size, 2, none⟩ = some (.int .u8 (c1 : Int)) → (convert 125 9 (.slice (some ⟨wr.heap.size, 0, none⟩) 3 4)).run Tryz.prog W = .ok (.string S) W := fun W g0 g1 g2 => by
      rw [← hS]
      refine run_convert_bytes_arg W 125 5 Tryz.underlying125 Tryz.underlying5 wr.heap.size 0 3 4 [(c3 : Int), (c2 : Int), (c1 : Int)] rfl (fun j hj => ?_) 9 Tryz.underlying9
      rw [Nat.zero_add]
      exact match j, hj with | 0, _ => g0 | 1, _ => g1 | 2, _ => g2
     have hrp : Hid (strings_Repeat.f ⟨#[61]⟩ 1 = some (Pl.str [61])) := rfl
     have hfin : Hid (S ++ Pl.str [61] = r) := by
      show _ = _
      obtain ⟨x, y, hx⟩ := list2 (l := Pl.bs a0) (by rw [Pl.bs_length, hz])
      have hg : g = x.toNat * 65536 + y.toNat * 256 := by
       rw [← HGN.out, hx]
       simp [gN]
       try omega
      rw [← HR.out, hx, ← hS, show Pl.b64P [x, y] = (Pl.grp x.toNat y.toNat 0).take 3 ++ [61] from rfl]
      have e0 := H0.out
      have e1 := H1.out
      have e2 := H2.out
      have e3 := H3.out
      rw [← Q0.out, hg] at e0
      rw [← Q1.out, hg] at e1
      rw [← Q2.out, hg] at e2
      rw [← Q3.out, hg] at e3
      rw [← e3, ← e2, ← e1]
      apply Pl.bs_inj
      rw [Pl.bs_app, Pl.bs_str, Pl.bs_str]
      simp [Pl.bs, strOfNums, Pl.grp]
     have hz2 : (S ++ Pl.str [61]).size = 4 := by rw [ByteArray.size_append, hSz, Pl.str_size]; rfl
     clear hS
     go_region_with (go_at_call 230; refine (strings_Repeat.calls ⟨#[61]⟩ 1 _ _ hrp.out).mono ?_; rintro e w' ⟨rfl, hb⟩; have d0 := (hb.cell (p := ⟨wr.heap.size, 0, none⟩) hlt2).trans f0; have d1 := (hb.cell (p := ⟨wr.heap.size, 1, none⟩) hlt2).trans f1; have d2 := (hb.cell (p := ⟨wr.heap.size, 2, none⟩) hlt2).trans f2)
     all_goals
      go_wp2
      go_ret
      refine ⟨?_, hB2.trans ((⟨rfl, rfl, rfl, Nat.le_refl _, fun _ _ => rfl⟩ : Below wr.heap.size W2 W2.drew).trans (hb.mono (Nat.le_of_lt hlt2)))⟩
      rw [← hfin.out]
      rfl
    obtain ⟨S, hS⟩ : ∃ S, strOfNums [(c3 : Int), (c2 : Int), (c1 : Int), (c0 : Int)] = S := ⟨_, rfl⟩
    have hSz : S.size = 4 := by rw [← hS, strOfNums_size]; rfl
    have hcv : ∀ W : World, W.cell? ⟨wr.heap.size, 0, none⟩ = some (.int .u8 (c3 : Int)) → W.cell? ⟨wr.heap.size, 1, none⟩ = some (.int .u8 (c2 : Int)) → W.cell? ⟨wr.heap.size, 2, none⟩ = some (.int .u8 (c1 : Int)) → W.cell? ⟨wr.heap.size, 3, none⟩ = some (.int .u8 (c0 : Int)) → (convert 125 9 (.slice (some ⟨wr.heap.size, 0, none⟩) 4 4)).run Tryz.prog W = .ok (.string S) W := fun W g0 g1 g2 g3 => by
     rw [← hS]
     refine run_convert_bytes_arg W 125 5 Tryz.underlying125 Tryz.underlying5 wr.heap.size 0 4 4 [(c3 : Int), (c2 : Int), (c1 : Int), (c0 : Int)] rfl (fun j hj => ?_) 9 Tryz.underlying9
     rw [Nat.zero_add]
     exact match j, hj with | 0, _ => g0 | 1, _ => g1 | 2, _ => g2 | 3, _ => g3
    have hrp : Hid (strings_Repeat.f ⟨#[61]⟩ 0 = some (Pl.str [])) := rfl
    have hfin : Hid (S ++ Pl.str [] = r) := by
     show _ = _
     obtain ⟨x, y, z, hx⟩ := list3 (l := Pl.bs a0) (by rw [Pl.bs_length, hz])
     have hg : g = x.toNat * 65536 + y.toNat * 256 + z.toNat * 1 := by
      rw [← HGN.out, hx]
      simp [gN]
      try omega
     rw [← HR.out, hx, ← hS, show Pl.b64P [x, y, z] = (Pl.grp x.toNat y.toNat z.toNat).take 4 ++ [] from by simp [Pl.b64P, Pl.grp]]
     have e0 := H0.out
     have e1 := H1.out
     have e2 := H2.out
     have e3 := H3.out
     rw [← Q0.out, hg] at e0
     rw [← Q1.out, hg] at e1
     rw [← Q2.out, hg] at e2
     rw [← Q3.out, hg] at e3
     rw [← e3, ← e2, ← e1, ← e0]
     apply Pl.bs_inj
     rw [Pl.bs_app, Pl.bs_str, Pl.bs_str]
     simp [Pl.bs, strOfNums, Pl.grp]
    have hz2 : (S ++ Pl.str []).size = 4 := by rw [ByteArray.size_append, hSz, Pl.str_size]; rfl
    clear hS
    go_region_with (go_at_call 230; refine (strings_Repeat.calls ⟨#[61]⟩ 0 _ _ hrp.out).mono ?_; rintro e w' ⟨rfl, hb⟩; have d0 := (hb.cell (p := ⟨wr.heap.size, 0, none⟩) hlt2).trans f0; have d1 := (hb.cell (p := ⟨wr.heap.size, 1, none⟩) hlt2).trans f1; have d2 := (hb.cell (p := ⟨wr.heap.size, 2, none⟩) hlt2).trans f2; have d3 := (hb.cell (p := ⟨wr.heap.size, 3, none⟩) hlt2).trans f3)
    all_goals
     go_wp2
     go_ret
     refine ⟨?_, hB2.trans ((⟨rfl, rfl, rfl, Nat.le_refl _, fun _ _ => rfl⟩ : Below wr.heap.size W2 W2.drew).trans (hb.mono (Nat.le_of_lt hlt2)))⟩
     rw [← hfin.out]
     rfl
 rw [if_neg hs] at h; exact absurd h (by simp)
end Go.Proofs.YtihabmcaplnbcaaGreatDoor.Fn
set_option linter.unusedVariables false
set_option linter.unusedSimpArgs false
namespace Go.Proofs.YtihabmcaplnbcaaGreatDoor.Pl
open Go.RowKit Go.Proofs.YtihabmcaplnbcaaGreatDoorW.PrintWords
theorem b64P_step (l : Bytes) (h : l ≠ []) : b64P l = b64P (l.take 3) ++ b64P (l.drop 3) := by
 match l, h with
 | [a], _ => simp [b64P]
 | [a, b], _ => simp [b64P]
 | a :: b :: c :: r, _ => simp [b64P]
theorem b64P_three (l : Bytes) (h : l ≠ []) (h3 : l.length ≤ 3) : (b64P l).length = 4 := by
 match l, h with
 | [a], _ => rfl
 | [a, b], _ => rfl
 | [a, b, c], _ => rfl
 | a :: b :: c :: d :: r, _ => simp at h3
end Go.Proofs.YtihabmcaplnbcaaGreatDoor.Pl
namespace Go.Proofs.YtihabmcaplnbcaaGreatDoor.Fn
open Go.RowKit Go.Proofs.YtihabmcaplnbcaaGreatDoorW.PrintWords

def b64_Plain.f (a0 : ByteArray) : Option ByteArray := if a0.size ≤ 1000000000 then some (Pl.str (Pl.b64P (Pl.bs a0))) else none
set_option maxHeartbeats 4000000 in
set_option maxRecDepth 100000 in
theorem b64_Plain.calls (a0 r : ByteArray) (w : World) (h : b64_Plain.f a0 = some r) :
  Calls Tryz.prog 211 #[.string a0] w fun e w' => e = .returned (.string r) ∧ Below w.heap.size w w' := by
 unfold b64_Plain.f at h
 by_cases hs : a0.size ≤ 1000000000
 ·rw [if_pos hs] at h
  have HR := hid (Option.some.inj h)
  clear h
  go_enter Tryz.func211, Tryz.ntmps211
  go_wp2
  go_loopw [0] (fun v0 wr => ∃ (s : ByteArray) (acc : List UInt8), v0 = .string s ∧ isBd w.heap.size w.heap.size (Lib.byteCells acc) wr ∧ Below w.heap.size w wr ∧ Hid (Pl.str (acc ++ Pl.b64P (Pl.bs s)) = r) ∧ acc.length + 4 * s.size ≤ 4 * a0.size) (fun v0 wr => strLen v0)
  case atStart => exact ⟨a0, [], rfl, Lib.IsBuilderF.of (Lib.fresh_isBuilder _ _ w), (Below.refl _ w).alloc (Nat.le_refl _) _, HR.out, by simp⟩
  case round =>
   obtain ⟨s, acc, rfl, hI, hbw, hacc, hal⟩ := hrel
   have hbs := hbw.size
   have hzs := Pl.bs_length s
   by_cases he : s.toList = []
   ·obtain ⟨e0, e1⟩ := toList_ne he
    have hend : Hid (Pl.str acc = r) := by
     show _ = _
     rw [← hacc.out, show Pl.bs s = [] from by rw [← Pl.toList_bs]; exact he, Pl.b64P, List.append_nil]
    go_wp2_with (go_at_call 89; refine (Tryz.Builder_String_any_k w.heap.size w.heap.size acc _ hI hbs).mono ?_; rintro e W1 ⟨rfl, _, b1, _⟩)
    go_ret
    refine ⟨?_, hbw.trans b1⟩
    rw [← hend.out]
    rfl
   obtain ⟨e0, e1⟩ := toList_ne' he
   have hne : Pl.bs s ≠ [] := by rw [← Pl.toList_bs]; exact he
   have hpos : 1 ≤ s.size := by
    rw [← hzs]
    exact List.length_pos_iff.2 hne
   obtain ⟨n, hn⟩ : ∃ n, min 3 s.size = n := ⟨_, rfl⟩
   have hn1 : 1 ≤ n ∧ n ≤ 3 ∧ n ≤ s.size := by omega
   have hcut : (Pl.bs s).take n = (Pl.bs s).take 3 ∧ (Pl.bs s).drop n = (Pl.bs s).drop 3 := by
    rcases Nat.lt_or_ge s.size 3 with h3 | h3
    ·have e : n = s.size := by omega
     rw [e, List.take_of_length_le (by omega), List.take_of_length_le (by omega), List.drop_of_length_le (by omega), List.drop_of_length_le (by omega)]
     exact ⟨rfl, rfl⟩
    have e : n = 3 := by omega
    rw [e]
    exact ⟨rfl, rfl⟩
   have hx1 : Pl.bs (s.extract 0 n) = (Pl.bs s).take n := by rw [Pl.bs_extract, List.drop_zero]
   have hx2 : Pl.bs (s.extract n s.size) = (Pl.bs s).drop n := by rw [Pl.bs_extract, List.take_of_length_le (by omega)]
   have hx3 : (s.extract 0 n).size = n := by rw [← Pl.bs_length, hx1, List.length_take]; omega
   have hx4 : (s.extract n s.size).size = s.size - n := by rw [← Pl.bs_length, hx2, List.length_drop]; omega
   have hgl : (Pl.b64P ((Pl.bs s).take n)).length = 4 := Pl.b64P_three _ (by intro e; have := congrArg List.length e; rw [List.length_take, List.length_nil] at this; omega) (by rw [List.length_take]; omega)
   obtain ⟨Gr, hGr⟩ : ∃ G, Pl.str (Pl.b64P ((Pl.bs s).take n)) = G := ⟨_, rfl⟩
   have hGz : Gr.size = 4 := by rw [← hGr, Pl.str_size]; exact hgl
   have hgr : Hid (b64_group.f (s.extract 0 n) = some Gr) := by
    show _ = _
    unfold b64_group.f
    rw [if_pos (by omega), hx1, hGr]
   have hnew : Hid (Pl.str ((acc ++ Pl.bs Gr) ++ Pl.b64P (Pl.bs (s.extract n s.size))) = r) := by
    show _ = _
    rw [← hacc.out, Pl.b64P_step (Pl.bs s) hne, ← hGr, Pl.bs_str, hx2, hcut.1, hcut.2, List.append_assoc]
   have hmin : min (3 : Int) (s.size : Int) = (n : Int) := by omega
   have hn2 : ((n : Int) ≤ (s.size : Int)) = True := eq_true (by omega)
   have hn3 : ((0 : Int) ≤ (n : Int)) = True := eq_true (by omega)
   clear hcut hacc hGr hgl he hne hx1 hx2
   go_wp2_with (first
    | (go_at_call 226; refine (b64_group.calls (s.extract 0 n) Gr _ hgr.out).mono ?_; rintro e W2 ⟨rfl, b2⟩; have hI2 := bd_below hI b2)
    | (go_at_call 106; refine (bd_string w.heap.size w.heap.size (Lib.byteCells acc) Gr _ hI2 (by rw [Lib.byteCells_length]; omega) (by have := b2.size; omega)).mono ?_; rintro e W3 ⟨rfl, h3, b3, k3⟩))
   go_roundw
   case rel =>
    refine ⟨s.extract n s.size, acc ++ Pl.bs Gr, rfl, ?_, hbw.trans ((b2.mono hbs).trans b3), hnew, ?_⟩
    ·rw [Lib.byteCells_append]; exact h3.is
    rw [List.length_append, Pl.bs_length, hx4]; omega
   case measure => simp only [strLen, hx4]; omega
 rw [if_neg hs] at h; exact absurd h (by simp)
end Go.Proofs.YtihabmcaplnbcaaGreatDoor.Fn
set_option linter.unusedVariables false
namespace Go.Proofs.YtihabmcaplnbcaaGreatDoor.Fn
open Go.RowKit Go.Proofs.YtihabmcaplnbcaaGreatDoorW.PrintWords

def strings_IndexByte.f (a0 : ByteArray) (a1 : Int) : Option Int := some (Lib.indexByte a0.data.toList a1.toNat.toUInt8)
theorem strings_IndexByte.calls (a0 : ByteArray) (a1 : Int) (r : Int) (w : World) (h : strings_IndexByte.f a0 a1 = some r) :
  Calls Tryz.prog 135 #[.string a0, .int .u8 a1] w fun e w' => e = .returned (.int .i64 r) ∧ Drawn0 w w' := by
 unfold strings_IndexByte.f at h
 have HR := Option.some.inj h
 subst HR
 refine (Tryz.strings_IndexByte a0 a1 w).mono ?_
 rintro e w' ⟨rfl, rfl⟩
 exact ⟨rfl, Drawn0.refl _⟩
end Go.Proofs.YtihabmcaplnbcaaGreatDoor.Fn
set_option linter.unusedVariables false
namespace Go.Proofs.YtihabmcaplnbcaaGreatDoor.Fn
open Go.RowKit Go.Proofs.YtihabmcaplnbcaaGreatDoorW.PrintWords

def strings_TrimRight.f (a0 a1 : ByteArray) : Option ByteArray :=
 if a0.size ≤ 140737488355328 then (if a1.size ≤ 1000 then (if a1.data.toList.all (fun b => decide (b.toNat < 128)) = true then some (Pl.str (Lib.trimRightS a0.data.toList a1.data.toList)) else none) else none) else none
theorem strings_TrimRight.calls (a0 a1 r : ByteArray) (w : World) (h : strings_TrimRight.f a0 a1 = some r) :
  Calls Tryz.prog 69 #[.string a0, .string a1] w fun e w' => e = .returned (.string r) ∧ Below w.heap.size w w' := by
 unfold strings_TrimRight.f at h
 by_cases hs : a0.size ≤ 140737488355328
 ·rw [if_pos hs] at h
  by_cases hc : a1.size ≤ 1000
  ·rw [if_pos hc] at h
   by_cases ha : a1.data.toList.all (fun b => decide (b.toNat < 128)) = true
   ·rw [if_pos ha] at h
    have HR := Option.some.inj h
    subst HR
    exact Any.strings_TrimRight_laid Tryz.lays162 (by kernel_rfl) a0 a1 w (by omega) (by omega) (ascii_of_all ha)
   rw [if_neg ha] at h; exact absurd h (by simp)
  rw [if_neg hc] at h; exact absurd h (by simp)
 rw [if_neg hs] at h; exact absurd h (by simp)
end Go.Proofs.YtihabmcaplnbcaaGreatDoor.Fn
namespace Go.Proofs.YtihabmcaplnbcaaGreatDoor.Fn
open Go.RowKit Go.Proofs.YtihabmcaplnbcaaGreatDoorW.PrintWords Go.Proofs.YtihabmcaplnbcaaGreatDoorW.PrintLast Go.Proofs.YtihabmcaplnbcaaGreatDoorW.PrintMore
attribute [local go_sem] max2_int min2_int max_two min_two max_three min_three max_four min_four
set_option linter.unusedVariables false
set_option linter.unusedSimpArgs false
def b64_Decode.l0 : Nat → ByteArray → List Int → Int → Int → Int → Int → Option (ByteArray × Int)
 | 0, _, _, _, _, _, _ => none
 | k + 1, x0, x4, x5, x6, x13, x14 => if x14 < x13 then (if 0 ≤ x14 then (if x14 < (x0.size : Int) then ((strings_IndexByte.f (⟨#[65, 66, 67, 68, 69, 70, 71, 72, 73, 74, 75, 76, 77, 78, 79, 80, 81, 82, 83, 84, 85, 86, 87, 88, 89, 90, 97, 98, 99, 100, 101, 102, 103, 104, 105, 106, 107, 108, 109, 110, 111, 112, 113, 114, 115, 116, 117, 118, 119, 120, 121, 122, 48, 49, 50, 51, 52, 53, 54, 55, 56, 57, 43, 47]⟩ : ByteArray) (bt x0 x14)).bind fun t173 => (if t173 < 0 then (some ((⟨#[]⟩ : ByteArray), 3)) else (if (wrap64 (x6 + 6)) ≥ 8 then (if 0 ≤ (wrap64 ((wrap64 (x6 + 6)) - 8)) then (if x4.length < 140737488355328 then (b64_Decode.l0 k x0 (x4 ++ [(shr .i64 (Go.bits .or .i64 (wrap64 (x5 * 64)) t173) (wrap64 ((wrap64 (x6 + 6)) - 8))) % 256]) (Go.bits .and .i64 (Go.bits .or .i64 (wrap64 (x5 * 64)) t173) (wrap64 ((shl .i64 1 (wrap64 ((wrap64 (x6 + 6)) - 8))) - 1))) (wrap64 ((wrap64 (x6 + 6)) - 8)) x13 (wrap64 (x14 + 1))) else (none)) else (none)) else (b64_Decode.l0 k x0 x4 (Go.bits .or .i64 (wrap64 (x5 * 64)) t173) (wrap64 (x6 + 6)) x13 (wrap64 (x14 + 1)))))) else (none)) else (none)) else ((b64_Plain.f (strOfNums x4)).bind fun t172 => (if t172.toList = x0.toList then (some (strOfNums x4, 0)) else (some ((⟨#[]⟩ : ByteArray), 3))))
def b64_Decode.f (k : Nat) (a0 : ByteArray) : Option (ByteArray × Int) := (b64_bare.f k a0).bind fun t170 => ((strings_TrimRight.f t170 (⟨#[61]⟩ : ByteArray)).bind fun t171 => (b64_Decode.l0 k t170 ([] : List Int) 0 0 (t171.size : Int) 0))
set_option maxHeartbeats 8000000 in
set_option maxRecDepth 100000 in
theorem b64_Decode.calls (k : Nat) (a0 : ByteArray) (r1 : ByteArray) (r2 : Int) (w : World) (h : b64_Decode.f k a0 = some (r1, r2)) :
  Calls Tryz.prog 187 #[.string a0] w fun e w' => e = .returned (.tuple #[.string r1, .int .i64 r2]) ∧ Below w.heap.size w w' := by
 have HB := Aside0.mk (Below.refl w.heap.size w); have H : ((b64_bare.f k a0).bind fun t170 => ((strings_TrimRight.f t170 (⟨#[61]⟩ : ByteArray)).bind fun t171 => (b64_Decode.l0 k t170 ([] : List Int) 0 0 (t171.size : Int) 0))) = some (r1, r2) := h; clear h; replace H := Option.bind_eq_some_iff.mp H; obtain ⟨t170, A20, H⟩ := H; have A2 := Aside0.mk A20; clear A20; replace H := Option.bind_eq_some_iff.mp H; obtain ⟨t171, A30, H⟩ := H; have A3 := Aside0.mk A30; clear A30; have H' := Aside0.mk H; clear H
 go_enter Tryz.func187, Tryz.ntmps187
 go_wp2_with (first | ((with_reducible refine gate_callee (f := 210) rfl ?_); refine goesL_ (some 10) rfl rfl Tryz.func210 (by kernel_rfl) rfl #[.string a0] rfl am ?_; (with_reducible refine (b64_bare.calls k a0 t170 _ A2.out).mono ?_); rintro e w4 ⟨rfl, hb⟩; refine ⟨_, rfl, ?_⟩; have n0_ := Aside0.mk (below_step bw hb); clear HB; have HB := n0_; clear n0_; (try clear hb); (try clear hb2); (try clear hk); (try clear hi)) | ((with_reducible refine gate_callee (f := 69) rfl ?_); refine goesL_ (some 12) rfl rfl Tryz.func69 (by kernel_rfl) rfl #[.string t170, .string (⟨#[61]⟩ : ByteArray)] rfl am ?_; (with_reducible refine (strings_TrimRight.calls t170 (⟨#[61]⟩ : ByteArray) t171 _ A3.out).mono ?_); rintro e w5 ⟨rfl, hb⟩; refine ⟨_, rfl, ?_⟩; have n0_ := Aside0.mk (below_step bw hb); clear HB; have HB := n0_; clear n0_; (try clear hb); (try clear hb2); (try clear hk); (try clear hi)))
 go_loopg [4, 5, 6, 14] k (fun kq v4 v5 v6 v14 w' => ∃ (x4_1 : List Int) (x5_1 : Int) (x6_1 : Int) (x14_1 : Int), v5 = .int .i64 x5_1 ∧ v6 = .int .i64 x6_1 ∧ v14 = .int .i64 x14_1 ∧ Aside0 (b64_Decode.l0 kq t170 x4_1 x5_1 x6_1 (t171.size : Int) x14_1 = some (r1, r2)) ∧ Aside0 (kq ≤ k) ∧ Aside0 (Kd.R (Kd.int .u8) 5 w' w.heap.size (fun _ => True) v4 x4_1) ∧ Aside0 (Below w.heap.size w w'))
 case atStart => exact ⟨(([] : List Int)), (0), (0), (0), cl, cl, cl, H', ⟨Nat.le_refl _⟩, ⟨by first | exact Kd.R_nil _ _ _ _ _ | exact Kd.N_nil _ _ _ _ _ | exact Kd.V_nil _ _ _ _ _ | exact Kd.Q_nil _ _ _ _ _ | exact Kd.S_nil _ _ _ _ _⟩, ⟨bw⟩⟩
 case round =>
  clear H'
  try clear c1
  try clear c2
  try clear p2
  obtain ⟨x4_1, x5_1, x6_1, x14_1, rfl, rfl, rfl, HA, HK1, HO_4, HB⟩ := hrel; cases gk with
  | zero => exact absurd HA.out (by simp [b64_Decode.l0])
  | succ k1 =>
   have H := HA.out; clear HA; simp only [b64_Decode.l0] at H
   by_cases c6 : x14_1 < (t171.size : Int)
   ·rw [if_pos c6] at H; have c6b0 := decide_eq_true c6; clear c6
    by_cases c7 : 0 ≤ x14_1
    ·rw [if_pos c7] at H; have c7b0 := decide_eq_true c7; clear c7
     by_cases c8 : x14_1 < (t170.size : Int)
     ·rw [if_pos c8] at H; have c8b0 := decide_eq_true c8; clear c8; replace H := Option.bind_eq_some_iff.mp H; obtain ⟨t173, A100, H⟩ := H; have A10 := Aside0.mk A100; clear A100
      by_cases c11 : t173 < 0
      ·rw [if_pos c11] at H; have c11b0 := decide_eq_true c11; clear c11; simp only [Option.some.injEq, Prod.mk.injEq] at H; obtain ⟨rfl, rfl⟩ := H; have p9 : 0 ≤ (x14_1 : Int) := od; have q9 : x14_1 < (t170.size : Int) := od; have hx9 := bt_at t170 x14_1; replace p9 := eq_true p9; replace q9 := eq_true q9
       go_wp2_with (first | ((with_reducible refine gate_callee (f := 135) rfl ?_); refine goesL_ (some 20) rfl rfl Tryz.func135 (by kernel_rfl) rfl #[.string (⟨#[65, 66, 67, 68, 69, 70, 71, 72, 73, 74, 75, 76, 77, 78, 79, 80, 81, 82, 83, 84, 85, 86, 87, 88, 89, 90, 97, 98, 99, 100, 101, 102, 103, 104, 105, 106, 107, 108, 109, 110, 111, 112, 113, 114, 115, 116, 117, 118, 119, 120, 121, 122, 48, 49, 50, 51, 52, 53, 54, 55, 56, 57, 43, 47]⟩ : ByteArray), .int .u8 (bt t170 x14_1)] rfl am ?_; (with_reducible refine (strings_IndexByte.calls (⟨#[65, 66, 67, 68, 69, 70, 71, 72, 73, 74, 75, 76, 77, 78, 79, 80, 81, 82, 83, 84, 85, 86, 87, 88, 89, 90, 97, 98, 99, 100, 101, 102, 103, 104, 105, 106, 107, 108, 109, 110, 111, 112, 113, 114, 115, 116, 117, 118, 119, 120, 121, 122, 48, 49, 50, 51, 52, 53, 54, 55, 56, 57, 43, 47]⟩ : ByteArray) (bt t170 x14_1) t173 _ A10.out).mono ?_); rintro e w' ⟨rfl, ⟨nd, rfl⟩⟩; refine ⟨_, rfl, ?_⟩))
       go_ret2
       exact ⟨ew, bw⟩
      rw [if_neg c11] at H; have c11b0 := decide_eq_false c11; clear c11
      by_cases c12 : (wrap64 (x6_1 + 6)) ≥ 8
      ·rw [if_pos c12] at H; have c12b0 : decide (8 ≤ (wrap64 (x6_1 + 6))) = true := decide_eq_true c12; clear c12; obtain ⟨ji13, hji13⟩ : ∃ j_ : Int, (wrap64 ((wrap64 (x6_1 + 6)) - 8)) = j_ := ⟨_, rfl⟩
       replace H : (if 0 ≤ (ji13) then (if x4_1.length < 140737488355328 then (b64_Decode.l0 k1 t170 (x4_1 ++ [(shr .i64 (Go.bits .or .i64 (wrap64 (x5_1 * 64)) t173) (ji13)) % 256]) (Go.bits .and .i64 (Go.bits .or .i64 (wrap64 (x5_1 * 64)) t173) (wrap64 ((shl .i64 1 (ji13)) - 1))) ji13 (t171.size : Int) (wrap64 (x14_1 + 1))) else (none)) else (none)) = some (r1, r2) := by first | (rw [hji13] at H; exact H) | (simp only [hji13] at H ⊢; exact H)
       (try rw [hji13] at A10)
       have hji13w : (IntKind.i64.wrap ((wrap64 (x6_1 + 6)) - 8)) = ji13 := (i64_w _).trans hji13
       by_cases c14 : 0 ≤ (ji13)
       ·rw [if_pos c14] at H; have c14b0 := eq_true c14; have c14b1 := decide_eq_true c14; clear c14; obtain ⟨ji15, hji15⟩ : ∃ j_ : Int, (shr .i64 (Go.bits .or .i64 (wrap64 (x5_1 * 64)) t173) (ji13)) = j_ := ⟨_, rfl⟩
        replace H : (if x4_1.length < 140737488355328 then (b64_Decode.l0 k1 t170 (x4_1 ++ [(ji15) % 256]) (Go.bits .and .i64 (Go.bits .or .i64 (wrap64 (x5_1 * 64)) t173) (wrap64 ((shl .i64 1 (ji13)) - 1))) ji13 (t171.size : Int) (wrap64 (x14_1 + 1))) else (none)) = some (r1, r2) := by first | (rw [hji15] at H; exact H) | (simp only [hji15] at H ⊢; exact H)
        (try rw [hji15] at A10)
        have hji15_ : ((Go.bits .or .i64 (wrap64 (x5_1 * 64)) t173) / 2 ^ min (ji13).toNat 64) = ji15 := hji15; have hji15z : (ji13) ≤ 64 → ((Go.bits .or .i64 (wrap64 (x5_1 * 64)) t173) / 2 ^ (ji13).toNat) = ji15 := shr_small hji15
        by_cases c16 : x4_1.length < 140737488355328
        ·rw [if_pos c16] at H; have LMc16 := Aside0.mk c16; clear c16; obtain ⟨y174, hy174⟩ : ∃ y_ : List Int, y_ = (x4_1 ++ [(ji15) % 256]) := ⟨_, rfl⟩
         replace H : (b64_Decode.l0 k1 t170 y174 (Go.bits .and .i64 (Go.bits .or .i64 (wrap64 (x5_1 * 64)) t173) (wrap64 ((shl .i64 1 (ji13)) - 1))) ji13 (t171.size : Int) (wrap64 (x14_1 + 1))) = some (r1, r2) := by first | (rw [hy174]; with_reducible exact H) | (have H2_ := (Option.bind_some _ _).symm.trans H; rw [hy174]; with_reducible exact H2_) | (have H2_ := (Option.bind_some _ _).symm.trans H; with_reducible exact H2_) | with_reducible exact H | (rw [hy174]; exact H) | exact H
         have Ny174 := Aside0.mk hy174; clear hy174; have c17b0 := eq_true (od : 0 ≤ (ji13)); obtain ⟨ji18, hji18⟩ : ∃ j_ : Int, (shl .i64 1 (ji13)) = j_ := ⟨_, rfl⟩
         replace H : (b64_Decode.l0 k1 t170 y174 (Go.bits .and .i64 (Go.bits .or .i64 (wrap64 (x5_1 * 64)) t173) (wrap64 ((ji18) - 1))) ji13 (t171.size : Int) (wrap64 (x14_1 + 1))) = some (r1, r2) := by first | (rw [hji18] at H; exact H) | (simp only [hji18] at H ⊢; exact H)
         (try rw [hji18] at A10)
         have hji18_ : (IntKind.i64.wrap (1 * 2 ^ min (ji13).toNat 64)) = ji18 := hji18; have hji18z : (ji13) ≤ 64 → (IntKind.i64.wrap (1 * 2 ^ (ji13).toNat)) = ji18 := shl_small hji18; have hji18u : (IntKind.i64.wrap (2 ^ min (ji13).toNat 64)) = ji18 := by have h_ := hji18_; rw [Int.one_mul] at h_; exact h_
         have hji18v : (ji13) ≤ 64 → (IntKind.i64.wrap (2 ^ (ji13).toNat)) = ji18 := fun hle_ => by have h_ := hji18z hle_; rw [Int.one_mul] at h_; exact h_
         have hji18y : (wrap64 (1 * 2 ^ min (ji13).toNat 64)) = ji18 := (i64_w _).symm.trans hji18_; have hji18x : (ji13) ≤ 64 → (wrap64 (1 * 2 ^ (ji13).toNat)) = ji18 := fun h_ => (i64_w _).symm.trans (hji18z h_)
         have H' := Aside0.mk H; clear H; have p9 : 0 ≤ (x14_1 : Int) := od; have q9 : x14_1 < (t170.size : Int) := od; have hx9 := bt_at t170 x14_1; replace p9 := eq_true p9; replace q9 := eq_true q9
         go_wp2_with (first | ((with_reducible refine gate_callee (f := 135) rfl ?_); refine goesL_ (some 20) rfl rfl Tryz.func135 (by kernel_rfl) rfl #[.string (⟨#[65, 66, 67, 68, 69, 70, 71, 72, 73, 74, 75, 76, 77, 78, 79, 80, 81, 82, 83, 84, 85, 86, 87, 88, 89, 90, 97, 98, 99, 100, 101, 102, 103, 104, 105, 106, 107, 108, 109, 110, 111, 112, 113, 114, 115, 116, 117, 118, 119, 120, 121, 122, 48, 49, 50, 51, 52, 53, 54, 55, 56, 57, 43, 47]⟩ : ByteArray), .int .u8 (bt t170 x14_1)] rfl am ?_; (with_reducible refine (strings_IndexByte.calls (⟨#[65, 66, 67, 68, 69, 70, 71, 72, 73, 74, 75, 76, 77, 78, 79, 80, 81, 82, 83, 84, 85, 86, 87, 88, 89, 90, 97, 98, 99, 100, 101, 102, 103, 104, 105, 106, 107, 108, 109, 110, 111, 112, 113, 114, 115, 116, 117, 118, 119, 120, 121, 122, 48, 49, 50, 51, 52, 53, 54, 55, 56, 57, 43, 47]⟩ : ByteArray) (bt t170 x14_1) t173 _ A10.out).mono ?_); rintro e w' ⟨rfl, ⟨nd, rfl⟩⟩; refine ⟨_, rfl, ?_⟩) | ((with_reducible refine gate_builtin (b := .append) (xs := #[.tmp 33, .tmp 38]) rfl ?_); at_builtin; refine Kd.R_append (Kd.int .u8) (w0 := w) w.heap.size rfl (.tmp 33) (.tmp 38) 125 5 (.int .u8 0) 1 rfl Tryz.underlying125 info5 rfl (by decide) (by omega) u4 x4_1 ((ji15) % 256) [.int .u8 ((ji15) % 256)] (fun _ => True) (fun _ => False) rfl rfl ?aP (fun _ hk => hk.elim) ?aF ?aO ?aB ?aS ?aL ?_; (case aP => exact rfl); (case aB => exact bw); (case aF => exact (fun _ _ => trivial)); (case aO => exact (ra HO_4.out)); (case aS => exact (below_size bw)); (case aL => have := LMc16.out; omega); intro v175 w19 ho hb hg hat; rw [← Ny174.out] at ho; have n0_ := Aside0.mk (hb); have n1_ := Aside0.mk (ho); clear HB; clear HO_4; have HB := n0_; have HO176 := n1_; clear n0_ n1_; clear ho hb hg hat))
         go_roundg k1
         case measure => have := HK1.out; omega
         case rel => exact ⟨(y174), (Go.bits .and .i64 (Go.bits .or .i64 (wrap64 (x5_1 * 64)) t173) (wrap64 ((ji18) - 1))), (ji13), (wrap64 (x14_1 + 1)), (by first | rfl | (simp; done) | (simp only [← hji18] <;> (first | rfl | simp)) | (simp [*]; done) | (simp [nil_ne]; done) | (simp [u8_w, i64w_]; done) | (simp [size_lit]; done) | (simp; unfold wrap64; omega)), (by first | rfl | (simp; done) | (simp only [← hji13] <;> (first | rfl | simp)) | (simp [*]; done) | (simp [nil_ne]; done) | (simp [u8_w, i64w_]; done) | (simp [size_lit]; done) | (simp; unfold wrap64; omega)), cl, H', ⟨by have := HK1.out; omega⟩, ⟨ra HO176.out⟩, ⟨bw⟩⟩
        rw [if_neg c16] at H; exact absurd H (by simp)
       rw [if_neg c14] at H; exact absurd H (by simp)
      rw [if_neg c12] at H; have c12b0 : decide (8 ≤ (wrap64 (x6_1 + 6))) = false := decide_eq_false c12; clear c12; have H' := Aside0.mk H; clear H; have p9 : 0 ≤ (x14_1 : Int) := od; have q9 : x14_1 < (t170.size : Int) := od; have hx9 := bt_at t170 x14_1; replace p9 := eq_true p9; replace q9 := eq_true q9
      go_wp2_with (first | ((with_reducible refine gate_callee (f := 135) rfl ?_); refine goesL_ (some 20) rfl rfl Tryz.func135 (by kernel_rfl) rfl #[.string (⟨#[65, 66, 67, 68, 69, 70, 71, 72, 73, 74, 75, 76, 77, 78, 79, 80, 81, 82, 83, 84, 85, 86, 87, 88, 89, 90, 97, 98, 99, 100, 101, 102, 103, 104, 105, 106, 107, 108, 109, 110, 111, 112, 113, 114, 115, 116, 117, 118, 119, 120, 121, 122, 48, 49, 50, 51, 52, 53, 54, 55, 56, 57, 43, 47]⟩ : ByteArray), .int .u8 (bt t170 x14_1)] rfl am ?_; (with_reducible refine (strings_IndexByte.calls (⟨#[65, 66, 67, 68, 69, 70, 71, 72, 73, 74, 75, 76, 77, 78, 79, 80, 81, 82, 83, 84, 85, 86, 87, 88, 89, 90, 97, 98, 99, 100, 101, 102, 103, 104, 105, 106, 107, 108, 109, 110, 111, 112, 113, 114, 115, 116, 117, 118, 119, 120, 121, 122, 48, 49, 50, 51, 52, 53, 54, 55, 56, 57, 43, 47]⟩ : ByteArray) (bt t170 x14_1) t173 _ A10.out).mono ?_); rintro e w' ⟨rfl, ⟨nd, rfl⟩⟩; refine ⟨_, rfl, ?_⟩))
      go_roundg k1
      case measure => have := HK1.out; omega
      case rel => exact ⟨(x4_1), (Go.bits .or .i64 (wrap64 (x5_1 * 64)) t173), (wrap64 (x6_1 + 6)), (wrap64 (x14_1 + 1)), cl, cl, cl, H', ⟨by have := HK1.out; omega⟩, ⟨ra HO_4.out⟩, ⟨bw⟩⟩
     rw [if_neg c8] at H; exact absurd H (by simp)
    rw [if_neg c7] at H; exact absurd H (by simp)
   rw [if_neg c6] at H; have c6b0 := decide_eq_false c6; clear c6; replace H := Option.bind_eq_some_iff.mp H; obtain ⟨t172, A200, H⟩ := H; have A20 := Aside0.mk A200; clear A200
   by_cases c21 : t172.toList = t170.toList
   ·rw [if_pos c21] at H; have c21b0 := beq_iff_eq.mpr c21; have c21b1 := bne_eq_false_iff_eq.mpr c21; clear c21; simp only [Option.some.injEq, Prod.mk.injEq] at H; obtain ⟨rfl, rfl⟩ := H; have hcv22 := own_string (P := Tryz.prog) Tryz.underlying125 Tryz.underlying5 Tryz.underlying9 (Kd.own_of_R HO_4.out)
    go_wp2_with (first | ((with_reducible refine gate_callee (f := 211) rfl ?_); refine goesL_ (some 48) rfl rfl Tryz.func211 (by kernel_rfl) rfl #[.string (strOfNums x4_1)] rfl am ?_; (with_reducible refine (b64_Plain.calls (strOfNums x4_1) t172 _ A20.out).mono ?_); rintro e w23 ⟨rfl, hb⟩; refine ⟨_, rfl, ?_⟩; have n0_ := Aside0.mk (Kd.R_below (ra HO_4.out) hb); have n1_ := Aside0.mk (below_step bw hb); clear HO_4; clear HB; have HO_4 := n0_; have HB := n1_; clear n0_ n1_; (try clear hb); (try clear hb2); (try clear hk); (try clear hi); have hcv24 := own_string (P := Tryz.prog) Tryz.underlying125 Tryz.underlying5 Tryz.underlying9 (Kd.own_of_R HO_4.out)))
    go_ret2
    exact ⟨ew, bw⟩
   rw [if_neg c21] at H; have c21b0 := beq_eq_false_iff_ne.mpr c21; have c21b1 := bne_iff_ne.mpr c21; simp only [Option.some.injEq, Prod.mk.injEq] at H; obtain ⟨rfl, rfl⟩ := H; have hcv25 := own_string (P := Tryz.prog) Tryz.underlying125 Tryz.underlying5 Tryz.underlying9 (Kd.own_of_R HO_4.out)
   go_wp2_with (first | ((with_reducible refine gate_callee (f := 211) rfl ?_); refine goesL_ (some 48) rfl rfl Tryz.func211 (by kernel_rfl) rfl #[.string (strOfNums x4_1)] rfl am ?_; (with_reducible refine (b64_Plain.calls (strOfNums x4_1) t172 _ A20.out).mono ?_); rintro e w26 ⟨rfl, hb⟩; refine ⟨_, rfl, ?_⟩; have n0_ := Aside0.mk (Kd.R_below (ra HO_4.out) hb); have n1_ := Aside0.mk (below_step bw hb); clear HO_4; clear HB; have HO_4 := n0_; have HB := n1_; clear n0_ n1_; (try clear hb); (try clear hb2); (try clear hk); (try clear hi)))
   go_ret2
   exact ⟨ew, bw⟩

end Go.Proofs.YtihabmcaplnbcaaGreatDoor.Fn
namespace Go.Proofs.YtihabmcaplnbcaaGreatDoor.Fn
open Go.RowKit Go.Proofs.YtihabmcaplnbcaaGreatDoorW.PrintWords Go.Proofs.YtihabmcaplnbcaaGreatDoorW.PrintLast Go.Proofs.YtihabmcaplnbcaaGreatDoorW.PrintMore
attribute [local go_sem] max2_int min2_int max_two min_two max_three min_three max_four min_four
set_option linter.unusedVariables false
set_option linter.unusedSimpArgs false

mutual
def qp_digit.j0 : Nat → Int → Bool → Option (Int)
 | 0, _, _ => none
 | k + 1, x0, x3 => if x3 = true then (some ((x0 - 48) % 256)) else (if x0 ≥ 65 then (qp_digit.j1 k x0 (decide (x0 ≤ 70))) else (qp_digit.j1 k x0 false))
def qp_digit.j1 : Nat → Int → Bool → Option (Int)
 | 0, _, _ => none
 | k + 1, x0, x13 => if x13 = true then (some (((x0 - 65) % 256) + 10)) else (if x0 ≥ 97 then (if x0 ≤ 102 then (some (((x0 - 97) % 256) + 10)) else (some (-1))) else (some (-1)))
end
def qp_digit.f (k : Nat) (a0 : Int) : Option (Int) := if a0 ≥ 48 then (qp_digit.j0 k a0 (decide (a0 ≤ 57))) else (qp_digit.j0 k a0 false)
theorem qp_digit.mono_l : ∀ k, (∀ y0 y1, LeO (qp_digit.j0 k y0 y1) (qp_digit.j0 (k + 1) y0 y1)) ∧ (∀ y0 y1, LeO (qp_digit.j1 k y0 y1) (qp_digit.j1 (k + 1) y0 y1))
 | 0 => ⟨fun _ _ r h => by simp [qp_digit.j0] at h, fun _ _ r h => by simp [qp_digit.j1] at h⟩
 | k + 1 => by
  obtain ⟨ih0, ih1⟩ := qp_digit.mono_l k; refine ⟨?_, ?_⟩
  ·intro y0 y1; unfold qp_digit.j0
   repeat' first
   | (with_reducible exact ih0 _ _)
   | (with_reducible exact ih1 _ _)
   | (with_reducible exact LeO.refl _)
   | (with_reducible exact LeO.none _)
   | (with_reducible refine LeO.ite ?_ ?_)
   | (with_reducible refine LeO.bind ?_ (fun _ => ?_))
   | exact ih0 _ _
   | exact ih1 _ _
   | exact LeO.none _
   | refine LeO.ite ?_ ?_
   | refine LeO.bind ?_ (fun _ => ?_)
  intro y0 y1; unfold qp_digit.j1
  repeat' first
  | (with_reducible exact ih0 _ _)
  | (with_reducible exact ih1 _ _)
  | (with_reducible exact LeO.refl _)
  | (with_reducible exact LeO.none _)
  | (with_reducible refine LeO.ite ?_ ?_)
  | (with_reducible refine LeO.bind ?_ (fun _ => ?_))
  | exact ih0 _ _
  | exact ih1 _ _
  | exact LeO.none _
  | refine LeO.ite ?_ ?_
  | refine LeO.bind ?_ (fun _ => ?_)
theorem qp_digit.mono : ∀ a0 k, LeO (qp_digit.f k a0) (qp_digit.f (k + 1) a0) := by
 intro a0 k; obtain ⟨ih0, ih1⟩ := qp_digit.mono_l k; unfold qp_digit.f
 repeat' first
   | (with_reducible exact ih0 _ _)
   | (with_reducible exact ih1 _ _)
   | (with_reducible exact LeO.refl _)
   | (with_reducible exact LeO.none _)
   | (with_reducible refine LeO.ite ?_ ?_)
   | (with_reducible refine LeO.bind ?_ (fun _ => ?_))
   | exact ih0 _ _
   | exact ih1 _ _
   | exact LeO.none _
   | refine LeO.ite ?_ ?_
   | refine LeO.bind ?_ (fun _ => ?_)
set_option maxHeartbeats 8000000 in
set_option maxRecDepth 100000 in
theorem qp_digit.calls (k : Nat) (a0 : Int) (r : Int) (w : World) (h : qp_digit.f k a0 = some r) :
  Calls Tryz.prog 224 #[.int .u8 a0] w fun e w' => e = .returned (.int .i64 r) ∧ Drawn0 w w' := by
 have H : (if a0 ≥ 48 then (qp_digit.j0 k a0 (decide (a0 ≤ 57))) else (qp_digit.j0 k a0 false)) = some r := h; clear h; have HC2 := Aside0.mk H; clear H
 go_enter Tryz.func224, Tryz.ntmps224
 go_upto_region 1 with (fail)
 go_cut [3] (fun v3 wc => ∃ (kq : Nat) (x3_1 : Bool), v3 = .bool x3_1 ∧ Aside0 (qp_digit.j0 kq a0 x3_1 = some r) ∧ Aside0 (kq ≤ k) ∧ Drawn0 w wc)
 case first =>
  have H := HC2.out; clear HC2
  by_cases c3 : a0 ≥ 48
  ·rw [if_pos c3] at H; have c3b0 : decide (48 ≤ a0) = true := decide_eq_true c3; clear c3
   (first | rw [c3b0] | (simp only [i64_w, i32_w]; rw [c3b0]) | skip)
   have H' := Aside0.mk H; clear H
   go_wp2
   go_meet
   case rel => exact ⟨_, (decide (a0 ≤ 57)), cl, H', ⟨by first | omega | exact Nat.le_refl _⟩, d0⟩
  rw [if_neg c3] at H; have c3b0 : decide (48 ≤ a0) = false := decide_eq_false c3; clear c3
  (first | rw [c3b0] | (simp only [i64_w, i32_w]; rw [c3b0]) | skip)
  have H' := Aside0.mk H; clear H
  go_wp2
  go_meet
  case rel => exact ⟨_, (false), cl, H', ⟨by first | omega | exact Nat.le_refl _⟩, d0⟩
 case rest =>
  clear HC2
  try clear c2
  try clear p2
  try clear c3
  try clear c3b0
  obtain ⟨kq, x3_1, rfl, HA, HJ1, ⟨mc1, rfl⟩⟩ := hcut; cases kq with
  | zero => exact absurd HA.out (by simp [qp_digit.j0])
  | succ kj1 =>
   have H := HA.out; clear HA; simp only [qp_digit.j0] at H
   by_cases c4 : x3_1 = true
   ·subst c4; rw [if_pos rfl] at H; obtain rfl := Option.some.inj H
    go_wp2
    go_ret
    exact ⟨cl, d0⟩
   replace c4 := Bool.eq_false_iff.mpr c4; subst c4; rw [if_neg nft] at H; have HC5 := Aside0.mk H; clear H
   go_upto_region 3 with (fail)
   go_cut [13] (fun v13 wc => ∃ (kq : Nat) (x13_4 : Bool), v13 = .bool x13_4 ∧ Aside0 (qp_digit.j1 kq a0 x13_4 = some r) ∧ Aside0 (kq ≤ kj1) ∧ Drawn0 w wc)
   case first =>
    have H := HC5.out; clear HC5
    by_cases c6 : a0 ≥ 65
    ·rw [if_pos c6] at H; have c6b0 : decide (65 ≤ a0) = true := decide_eq_true c6; clear c6
     (first | rw [c6b0] | (simp only [i64_w, i32_w]; rw [c6b0]) | skip)
     have H' := Aside0.mk H; clear H
     go_wp2
     go_meet
     case rel => exact ⟨_, (decide (a0 ≤ 70)), cl, H', ⟨by have := HJ1.out; first | omega | exact Nat.le_refl _⟩, d0⟩
    rw [if_neg c6] at H; have c6b0 : decide (65 ≤ a0) = false := decide_eq_false c6; clear c6
    (first | rw [c6b0] | (simp only [i64_w, i32_w]; rw [c6b0]) | skip)
    have H' := Aside0.mk H; clear H
    go_wp2
    go_meet
    case rel => exact ⟨_, (false), cl, H', ⟨by have := HJ1.out; first | omega | exact Nat.le_refl _⟩, d0⟩
   case rest =>
    clear HC5
    try clear c1
    try clear c2
    try clear p2
    try clear c3
    try clear c3b0
    try clear c4
    try clear c6
    try clear c6b0
    try clear p2
    obtain ⟨kq, x13_4, rfl, HA, HJ4, ⟨mc4, rfl⟩⟩ := hcut; cases kq with
    | zero => exact absurd HA.out (by simp [qp_digit.j1])
    | succ kj4 =>
     have H := HA.out; clear HA; simp only [qp_digit.j1] at H
     by_cases c7 : x13_4 = true
     ·subst c7; rw [if_pos rfl] at H; obtain rfl := Option.some.inj H
      go_wp2
      go_ret
      exact ⟨cl, d0⟩
     replace c7 := Bool.eq_false_iff.mpr c7; subst c7; rw [if_neg nft] at H
     by_cases c8 : a0 ≥ 97
     ·rw [if_pos c8] at H; have c8b0 : decide (97 ≤ a0) = true := decide_eq_true c8; clear c8
      by_cases c9 : a0 ≤ 102
      ·rw [if_pos c9] at H; have c9b0 := decide_eq_true c9; clear c9; obtain rfl := Option.some.inj H
       go_wp2
       go_ret
       exact ⟨cl, d0⟩
      rw [if_neg c9] at H; have c9b0 := decide_eq_false c9; clear c9; obtain rfl := Option.some.inj H
      go_wp2
      go_ret
      exact ⟨cl, d0⟩
     rw [if_neg c8] at H; have c8b0 : decide (97 ≤ a0) = false := decide_eq_false c8; clear c8; obtain rfl := Option.some.inj H
     go_wp2
     go_ret
     exact ⟨cl, d0⟩

end Go.Proofs.YtihabmcaplnbcaaGreatDoor.Fn
namespace Go.Proofs.YtihabmcaplnbcaaGreatDoor.Fn
open Go.RowKit Go.Proofs.YtihabmcaplnbcaaGreatDoorW.PrintWords Go.Proofs.YtihabmcaplnbcaaGreatDoorW.PrintLast Go.Proofs.YtihabmcaplnbcaaGreatDoorW.PrintMore
attribute [local go_sem] max2_int min2_int max_two min_two max_three min_three max_four min_four
set_option linter.unusedVariables false
set_option linter.unusedSimpArgs false
def qp_Byte.j0 : Nat → ByteArray → Bool → Option (Int × Bool)
 | 0, _, _ => none
 | k + 1, x0, x18 => if x18 = true then (some (0, false)) else (if 0 < (x0.size : Int) then ((qp_digit.f k (bt x0 0)).bind fun t149 => (if 1 < (x0.size : Int) then ((qp_digit.f k (bt x0 1)).bind fun t150 => (some ((Go.bits .or .i64 (wrap64 (t149 * 16)) t150) % 256, true))) else (none))) else (none))
def qp_Byte.f (k : Nat) (a0 : ByteArray) : Option (Int × Bool) := if (a0.size : Int) = 2 then (if 0 < (a0.size : Int) then ((qp_digit.f k (bt a0 0)).bind fun t147 => (if t147 < 0 then (qp_Byte.j0 k a0 true) else (if 1 < (a0.size : Int) then ((qp_digit.f k (bt a0 1)).bind fun t148 => (qp_Byte.j0 k a0 (decide (t148 < 0)))) else (none)))) else (none)) else (qp_Byte.j0 k a0 true)
set_option maxHeartbeats 8000000 in
set_option maxRecDepth 100000 in
theorem qp_Byte.calls (k : Nat) (a0 : ByteArray) (r1 : Int) (r2 : Bool) (w : World) (h : qp_Byte.f k a0 = some (r1, r2)) :
  Calls Tryz.prog 209 #[.string a0] w fun e w' => e = .returned (.tuple #[.int .u8 r1, .bool r2]) ∧ Drawn0 w w' := by
 have H : (if (a0.size : Int) = 2 then (if 0 < (a0.size : Int) then ((qp_digit.f k (bt a0 0)).bind fun t147 => (if t147 < 0 then (qp_Byte.j0 k a0 true) else (if 1 < (a0.size : Int) then ((qp_digit.f k (bt a0 1)).bind fun t148 => (qp_Byte.j0 k a0 (decide (t148 < 0)))) else (none)))) else (none)) else (qp_Byte.j0 k a0 true)) = some (r1, r2) := h; clear h; have HC2 := Aside0.mk H; clear H
 go_enter Tryz.func209, Tryz.ntmps209
 go_upto_region 1 with (fail)
 repeat (go_quiet (fail); go_upto_region 1 with (fail))
 go_cut [18] (fun v18 wc => ∃ (kq : Nat) (x18_1 : Bool), v18 = .bool x18_1 ∧ Aside0 (qp_Byte.j0 kq a0 x18_1 = some (r1, r2)) ∧ Aside0 (kq ≤ k) ∧ Drawn0 w wc)
 case first =>
  have H := HC2.out; clear HC2
  by_cases c3 : (a0.size : Int) = 2
  ·rw [if_pos c3] at H; have c3b0 := beq_iff_eq.mpr c3; have c3b1 := bne_eq_false_iff_eq.mpr c3; clear c3
   (first | rw [c3b0] | (simp only [i64_w, i32_w]; rw [c3b0]) | skip)
   by_cases c4 : 0 < (a0.size : Int)
   ·rw [if_pos c4] at H; have c4b0 := decide_eq_true c4; have c4b1 : decide (0 < a0.size) = true := decide_eq_true (by omega); clear c4; replace H := Option.bind_eq_some_iff.mp H; obtain ⟨t147, A60, H⟩ := H; have A6 := Aside0.mk A60; clear A60
    by_cases c7 : t147 < 0
    ·rw [if_pos c7] at H; have c7b0 := decide_eq_true c7; clear c7; have H' := Aside0.mk H; clear H; have p5 : 0 ≤ (0 : Int) := (by omega)
     have q5 : 0 < a0.size := (by have : (0 : Int) < (a0.size : Int) := od; omega)
     have hx5 : ∀ h : 0 < a0.size, ((a0[0]'h).toNat : Int) = bt a0 0 := bt_at a0 0; clear p5; have qi5 : (0 < (a0.size : Int)) = True := eq_true (od); replace q5 := eq_true q5
     go_wp2_with (first | (go_at_call 224; (with_reducible refine (qp_digit.calls k (bt a0 0) t147 _ A6.out).mono ?_); rintro e w' ⟨rfl, ⟨nd, rfl⟩⟩; (try first | exact ⟨rfl, _, World.drewN_drewN _ _ _⟩ | exact ⟨rfl, _, Eq.trans (World.drewN_drewN _ _ _) (congrArg (World.drewN _) (Nat.add_assoc _ _ _))⟩)))
     repeat (go_quiet (first | (go_at_call 224; (with_reducible refine (qp_digit.calls k (bt a0 0) t147 _ A6.out).mono ?_); rintro e w' ⟨rfl, ⟨nd, rfl⟩⟩; (try first | exact ⟨rfl, _, World.drewN_drewN _ _ _⟩ | exact ⟨rfl, _, Eq.trans (World.drewN_drewN _ _ _) (congrArg (World.drewN _) (Nat.add_assoc _ _ _))⟩))); try go_wp2_with (first | (go_at_call 224; (with_reducible refine (qp_digit.calls k (bt a0 0) t147 _ A6.out).mono ?_); rintro e w' ⟨rfl, ⟨nd, rfl⟩⟩; (try first | exact ⟨rfl, _, World.drewN_drewN _ _ _⟩ | exact ⟨rfl, _, Eq.trans (World.drewN_drewN _ _ _) (congrArg (World.drewN _) (Nat.add_assoc _ _ _))⟩))))
     go_meet
     case rel => exact ⟨_, (true), cl, H', ⟨by first | omega | exact Nat.le_refl _⟩, d0⟩
    rw [if_neg c7] at H; have c7b0 := decide_eq_false c7; clear c7
    by_cases c8 : 1 < (a0.size : Int)
    ·rw [if_pos c8] at H; have c8b0 := decide_eq_true c8; have c8b1 : decide (1 < a0.size) = true := decide_eq_true (by omega); clear c8; replace H := Option.bind_eq_some_iff.mp H; obtain ⟨t148, A100, H⟩ := H; have A10 := Aside0.mk A100; clear A100; have H' := Aside0.mk H; clear H; have p5 : 0 ≤ (0 : Int) := (by omega)
     have q5 : 0 < a0.size := (by have : (0 : Int) < (a0.size : Int) := od; omega)
     have hx5 : ∀ h : 0 < a0.size, ((a0[0]'h).toNat : Int) = bt a0 0 := bt_at a0 0; clear p5; have qi5 : (0 < (a0.size : Int)) = True := eq_true (od); replace q5 := eq_true q5
     go_wp2_with (first | (go_at_call 224; (with_reducible refine (qp_digit.calls k (bt a0 0) t147 _ A6.out).mono ?_); rintro e w' ⟨rfl, ⟨nd, rfl⟩⟩; (try first | exact ⟨rfl, _, World.drewN_drewN _ _ _⟩ | exact ⟨rfl, _, Eq.trans (World.drewN_drewN _ _ _) (congrArg (World.drewN _) (Nat.add_assoc _ _ _))⟩); have p9 : 0 ≤ (1 : Int) := (by omega); have q9 : 1 < a0.size := (by have : (1 : Int) < (a0.size : Int) := od; omega); have hx9 : ∀ h : 1 < a0.size, ((a0[1]'h).toNat : Int) = bt a0 1 := bt_at a0 1; clear p9; have qi9 : (1 < (a0.size : Int)) = True := eq_true (od); replace q9 := eq_true q9) | (go_at_call 224; (with_reducible refine (qp_digit.calls k (bt a0 1) t148 _ A10.out).mono ?_); rintro e w' ⟨rfl, ⟨nd, rfl⟩⟩; (try first | exact ⟨rfl, _, World.drewN_drewN _ _ _⟩ | exact ⟨rfl, _, Eq.trans (World.drewN_drewN _ _ _) (congrArg (World.drewN _) (Nat.add_assoc _ _ _))⟩)))
     repeat (go_quiet (first | (go_at_call 224; (with_reducible refine (qp_digit.calls k (bt a0 0) t147 _ A6.out).mono ?_); rintro e w' ⟨rfl, ⟨nd, rfl⟩⟩; (try first | exact ⟨rfl, _, World.drewN_drewN _ _ _⟩ | exact ⟨rfl, _, Eq.trans (World.drewN_drewN _ _ _) (congrArg (World.drewN _) (Nat.add_assoc _ _ _))⟩); have p9 : 0 ≤ (1 : Int) := (by omega); have q9 : 1 < a0.size := (by have : (1 : Int) < (a0.size : Int) := od; omega); have hx9 : ∀ h : 1 < a0.size, ((a0[1]'h).toNat : Int) = bt a0 1 := bt_at a0 1; clear p9; have qi9 : (1 < (a0.size : Int)) = True := eq_true (od); replace q9 := eq_true q9) | (go_at_call 224; (with_reducible refine (qp_digit.calls k (bt a0 1) t148 _ A10.out).mono ?_); rintro e w' ⟨rfl, ⟨nd, rfl⟩⟩; (try first | exact ⟨rfl, _, World.drewN_drewN _ _ _⟩ | exact ⟨rfl, _, Eq.trans (World.drewN_drewN _ _ _) (congrArg (World.drewN _) (Nat.add_assoc _ _ _))⟩))); try go_wp2_with (first | (go_at_call 224; (with_reducible refine (qp_digit.calls k (bt a0 0) t147 _ A6.out).mono ?_); rintro e w' ⟨rfl, ⟨nd, rfl⟩⟩; (try first | exact ⟨rfl, _, World.drewN_drewN _ _ _⟩ | exact ⟨rfl, _, Eq.trans (World.drewN_drewN _ _ _) (congrArg (World.drewN _) (Nat.add_assoc _ _ _))⟩); have p9 : 0 ≤ (1 : Int) := (by omega); have q9 : 1 < a0.size := (by have : (1 : Int) < (a0.size : Int) := od; omega); have hx9 : ∀ h : 1 < a0.size, ((a0[1]'h).toNat : Int) = bt a0 1 := bt_at a0 1; clear p9; have qi9 : (1 < (a0.size : Int)) = True := eq_true (od); replace q9 := eq_true q9) | (go_at_call 224; (with_reducible refine (qp_digit.calls k (bt a0 1) t148 _ A10.out).mono ?_); rintro e w' ⟨rfl, ⟨nd, rfl⟩⟩; (try first | exact ⟨rfl, _, World.drewN_drewN _ _ _⟩ | exact ⟨rfl, _, Eq.trans (World.drewN_drewN _ _ _) (congrArg (World.drewN _) (Nat.add_assoc _ _ _))⟩))))
     go_meet
     case rel => exact ⟨_, (decide (t148 < 0)), cl, H', ⟨by first | omega | exact Nat.le_refl _⟩, d0⟩
    rw [if_neg c8] at H; exact absurd H (by simp)
   rw [if_neg c4] at H; exact absurd H (by simp)
  rw [if_neg c3] at H; have c3b0 := beq_eq_false_iff_ne.mpr c3; have c3b1 := bne_iff_ne.mpr c3
  (first | rw [c3b0] | (simp only [i64_w, i32_w]; rw [c3b0]) | skip)
  have H' := Aside0.mk H; clear H
  go_wp2
  repeat (go_quiet (fail); try go_wp2)
  go_meet
  case rel => exact ⟨_, (true), cl, H', ⟨by first | omega | exact Nat.le_refl _⟩, d0⟩
 case rest =>
  clear HC2
  try clear c2
  try clear p2
  try clear c3
  try clear c3b0
  try clear c3b1
  try clear c4
  try clear c4b0
  try clear c4b1
  try clear p5
  try clear q5
  try clear hx5
  try clear qi5
  try clear c7
  try clear c7b0
  try clear c8
  try clear c8b0
  try clear c8b1
  try clear p9
  try clear q9
  try clear hx9
  try clear qi9
  try clear p5
  try clear p9
  try clear q5
  try clear q9
  obtain ⟨kq, x18_1, rfl, HA, HJ1, ⟨mc1, rfl⟩⟩ := hcut; cases kq with
  | zero => exact absurd HA.out (by simp [qp_Byte.j0])
  | succ kj1 =>
   have H := HA.out; clear HA; simp only [qp_Byte.j0] at H
   by_cases c11 : x18_1 = true
   ·subst c11; rw [if_pos rfl] at H; simp only [Option.some.injEq, Prod.mk.injEq] at H; obtain ⟨rfl, rfl⟩ := H
    go_wp2
    repeat (go_quiet (fail); try go_wp2)
    go_ret2
    exact ⟨cl, d0⟩
   replace c11 := Bool.eq_false_iff.mpr c11; subst c11; rw [if_neg nft] at H
   by_cases c12 : 0 < (a0.size : Int)
   ·rw [if_pos c12] at H; have c12b0 := decide_eq_true c12; have c12b1 : decide (0 < a0.size) = true := decide_eq_true (by omega); clear c12; replace H := Option.bind_eq_some_iff.mp H; obtain ⟨t149, A140, H⟩ := H; have A14 := Aside0.mk A140; clear A140
    by_cases c15 : 1 < (a0.size : Int)
    ·rw [if_pos c15] at H; have c15b0 := decide_eq_true c15; have c15b1 : decide (1 < a0.size) = true := decide_eq_true (by omega); clear c15; replace H := Option.bind_eq_some_iff.mp H; obtain ⟨t150, A170, H⟩ := H; have A17 := Aside0.mk A170; clear A170; simp only [Option.some.injEq, Prod.mk.injEq] at H; obtain ⟨rfl, rfl⟩ := H; have p13 : 0 ≤ (0 : Int) := (by omega)
     have q13 : 0 < a0.size := (by have : (0 : Int) < (a0.size : Int) := od; omega)
     have hx13 : ∀ h : 0 < a0.size, ((a0[0]'h).toNat : Int) = bt a0 0 := bt_at a0 0; clear p13; have qi13 : (0 < (a0.size : Int)) = True := eq_true (od); replace q13 := eq_true q13
     go_wp2_with (first | (go_at_call 224; (with_reducible refine (qp_digit.calls kj1 (bt a0 0) t149 _ A14.out).mono ?_); rintro e w' ⟨rfl, ⟨nd, rfl⟩⟩; (try first | exact ⟨rfl, _, World.drewN_drewN _ _ _⟩ | exact ⟨rfl, _, Eq.trans (World.drewN_drewN _ _ _) (congrArg (World.drewN _) (Nat.add_assoc _ _ _))⟩); have p16 : 0 ≤ (1 : Int) := (by omega); have q16 : 1 < a0.size := (by have : (1 : Int) < (a0.size : Int) := od; omega); have hx16 : ∀ h : 1 < a0.size, ((a0[1]'h).toNat : Int) = bt a0 1 := bt_at a0 1; clear p16; have qi16 : (1 < (a0.size : Int)) = True := eq_true (od); replace q16 := eq_true q16) | (go_at_call 224; (with_reducible refine (qp_digit.calls kj1 (bt a0 1) t150 _ A17.out).mono ?_); rintro e w' ⟨rfl, ⟨nd, rfl⟩⟩; (try first | exact ⟨rfl, _, World.drewN_drewN _ _ _⟩ | exact ⟨rfl, _, Eq.trans (World.drewN_drewN _ _ _) (congrArg (World.drewN _) (Nat.add_assoc _ _ _))⟩)))
     repeat (go_quiet (first | (go_at_call 224; (with_reducible refine (qp_digit.calls kj1 (bt a0 0) t149 _ A14.out).mono ?_); rintro e w' ⟨rfl, ⟨nd, rfl⟩⟩; (try first | exact ⟨rfl, _, World.drewN_drewN _ _ _⟩ | exact ⟨rfl, _, Eq.trans (World.drewN_drewN _ _ _) (congrArg (World.drewN _) (Nat.add_assoc _ _ _))⟩); have p16 : 0 ≤ (1 : Int) := (by omega); have q16 : 1 < a0.size := (by have : (1 : Int) < (a0.size : Int) := od; omega); have hx16 : ∀ h : 1 < a0.size, ((a0[1]'h).toNat : Int) = bt a0 1 := bt_at a0 1; clear p16; have qi16 : (1 < (a0.size : Int)) = True := eq_true (od); replace q16 := eq_true q16) | (go_at_call 224; (with_reducible refine (qp_digit.calls kj1 (bt a0 1) t150 _ A17.out).mono ?_); rintro e w' ⟨rfl, ⟨nd, rfl⟩⟩; (try first | exact ⟨rfl, _, World.drewN_drewN _ _ _⟩ | exact ⟨rfl, _, Eq.trans (World.drewN_drewN _ _ _) (congrArg (World.drewN _) (Nat.add_assoc _ _ _))⟩))); try go_wp2_with (first | (go_at_call 224; (with_reducible refine (qp_digit.calls kj1 (bt a0 0) t149 _ A14.out).mono ?_); rintro e w' ⟨rfl, ⟨nd, rfl⟩⟩; (try first | exact ⟨rfl, _, World.drewN_drewN _ _ _⟩ | exact ⟨rfl, _, Eq.trans (World.drewN_drewN _ _ _) (congrArg (World.drewN _) (Nat.add_assoc _ _ _))⟩); have p16 : 0 ≤ (1 : Int) := (by omega); have q16 : 1 < a0.size := (by have : (1 : Int) < (a0.size : Int) := od; omega); have hx16 : ∀ h : 1 < a0.size, ((a0[1]'h).toNat : Int) = bt a0 1 := bt_at a0 1; clear p16; have qi16 : (1 < (a0.size : Int)) = True := eq_true (od); replace q16 := eq_true q16) | (go_at_call 224; (with_reducible refine (qp_digit.calls kj1 (bt a0 1) t150 _ A17.out).mono ?_); rintro e w' ⟨rfl, ⟨nd, rfl⟩⟩; (try first | exact ⟨rfl, _, World.drewN_drewN _ _ _⟩ | exact ⟨rfl, _, Eq.trans (World.drewN_drewN _ _ _) (congrArg (World.drewN _) (Nat.add_assoc _ _ _))⟩))))
     go_ret2
     exact ⟨cl, d0⟩
    rw [if_neg c15] at H; exact absurd H (by simp)
   rw [if_neg c12] at H; exact absurd H (by simp)

def ew_quoted.l0 : Nat → ByteArray → List Int → Int → Option (ByteArray × Bool)
 | 0, _, _, _ => none
 | k + 1, x0, x4, x5 => if x5 < (x0.size : Int) then (if 0 ≤ x5 then (if (bt x0 x5) = 95 then (if x4.length < 140737488355328 then (ew_quoted.l0 k x0 (x4 ++ [32]) (wrap64 (x5 + 1))) else (none)) else (if (bt x0 x5) = 61 then (if 0 ≤ (wrap64 (x5 + 1)) then (if (wrap64 (x5 + 1)) ≤ (mn (wrap64 (x5 + 3)) (x0.size : Int)) then (if (mn (wrap64 (x5 + 3)) (x0.size : Int)) ≤ (x0.size : Int) then ((qp_Byte.f k (x0.extract ((wrap64 (x5 + 1)) : Int).toNat ((mn (wrap64 (x5 + 3)) (x0.size : Int)) : Int).toNat)).bind fun bt154 => (if bt154.2 = true then (if x4.length < 140737488355328 then (ew_quoted.l0 k x0 (x4 ++ [bt154.1]) (wrap64 ((wrap64 (x5 + 2)) + 1))) else (none)) else (some ((⟨#[]⟩ : ByteArray), false)))) else (none)) else (none)) else (none)) else (if x4.length < 140737488355328 then (ew_quoted.l0 k x0 (x4 ++ [bt x0 x5]) (wrap64 (x5 + 1))) else (none)))) else (none)) else (some (strOfNums x4, true))
def ew_quoted.f (k : Nat) (a0 : ByteArray) : Option (ByteArray × Bool) := ew_quoted.l0 k a0 ([] : List Int) 0
set_option maxHeartbeats 8000000 in
set_option maxRecDepth 100000 in
theorem ew_quoted.calls (k : Nat) (a0 : ByteArray) (r1 : ByteArray) (r2 : Bool) (w : World) (h : ew_quoted.f k a0 = some (r1, r2)) :
  Calls Tryz.prog 186 #[.string a0] w fun e w' => e = .returned (.tuple #[.string r1, .bool r2]) ∧ Below w.heap.size w w' := by
 have HB := Aside0.mk (Below.refl w.heap.size w); have H : (ew_quoted.l0 k a0 ([] : List Int) 0) = some (r1, r2) := h; clear h; have H' := Aside0.mk H; clear H
 go_enter Tryz.func186, Tryz.ntmps186
 go_wp2
 go_loopg [4, 5] k (fun kq v4 v5 w' => ∃ (x4_1 : List Int) (x5_1 : Int), v5 = .int .i64 x5_1 ∧ Aside0 (ew_quoted.l0 kq a0 x4_1 x5_1 = some (r1, r2)) ∧ Aside0 (kq ≤ k) ∧ Aside0 (Kd.R (Kd.int .u8) 5 w' w.heap.size (fun _ => True) v4 x4_1) ∧ Aside0 (Below w.heap.size w w'))
 case atStart => exact ⟨(([] : List Int)), (0), cl, H', ⟨Nat.le_refl _⟩, ⟨by first | exact Kd.R_nil _ _ _ _ _ | exact Kd.N_nil _ _ _ _ _ | exact Kd.V_nil _ _ _ _ _ | exact Kd.Q_nil _ _ _ _ _ | exact Kd.S_nil _ _ _ _ _⟩, ⟨bw⟩⟩
 case round =>
  clear H'
  try clear c1
  obtain ⟨x4_1, x5_1, rfl, HA, HK1, HO_4, HB⟩ := hrel; cases gk with
  | zero => exact absurd HA.out (by simp [ew_quoted.l0])
  | succ k1 =>
   have H := HA.out; clear HA; simp only [ew_quoted.l0] at H
   by_cases c2 : x5_1 < (a0.size : Int)
   ·rw [if_pos c2] at H; have c2b0 := decide_eq_true c2; clear c2
    by_cases c3 : 0 ≤ x5_1
    ·rw [if_pos c3] at H; have c3b0 := decide_eq_true c3; clear c3
     by_cases c5 : (bt a0 x5_1) = 95
     ·rw [if_pos c5] at H; have c5b0 := beq_iff_eq.mpr c5; have c5b1 := bne_eq_false_iff_eq.mpr c5; clear c5
      by_cases c6 : x4_1.length < 140737488355328
      ·rw [if_pos c6] at H; have LMc6 := Aside0.mk c6; clear c6; obtain ⟨y151, hy151⟩ : ∃ y_ : List Int, y_ = (x4_1 ++ [32]) := ⟨_, rfl⟩
       replace H : (ew_quoted.l0 k1 a0 y151 (wrap64 (x5_1 + 1))) = some (r1, r2) := by first | (rw [hy151]; with_reducible exact H) | (have H2_ := (Option.bind_some _ _).symm.trans H; rw [hy151]; with_reducible exact H2_) | (have H2_ := (Option.bind_some _ _).symm.trans H; with_reducible exact H2_) | with_reducible exact H | (rw [hy151]; exact H) | exact H
       have Ny151 := Aside0.mk hy151; clear hy151; have H' := Aside0.mk H; clear H; have p4 : 0 ≤ (x5_1 : Int) := od; have q4 : x5_1 < (a0.size : Int) := od; have hx4 := bt_at a0 x5_1; replace p4 := eq_true p4; replace q4 := eq_true q4
       go_wp2_with (first | ((with_reducible refine gate_builtin (b := .append) (xs := #[.tmp 25, .tmp 26]) rfl ?_); at_builtin; refine Kd.R_append (Kd.int .u8) (w0 := w) w.heap.size rfl (.tmp 25) (.tmp 26) 125 5 (.int .u8 0) 1 rfl Tryz.underlying125 info5 rfl (by decide) (by omega) u4 x4_1 32 [.int .u8 32] (fun _ => True) (fun _ => False) rfl rfl ?aP (fun _ hk => hk.elim) ?aF ?aO ?aB ?aS ?aL ?_; (case aP => exact rfl); (case aB => exact bw); (case aF => exact (fun _ _ => trivial)); (case aO => exact (ra HO_4.out)); (case aS => exact (below_size bw)); (case aL => have := LMc6.out; omega); intro v152 w7 ho hb hg hat; rw [← Ny151.out] at ho; have n0_ := Aside0.mk (hb); have n1_ := Aside0.mk (ho); clear HB; clear HO_4; have HB := n0_; have HO153 := n1_; clear n0_ n1_; clear ho hb hg hat))
       go_roundg k1
       case measure => have := HK1.out; omega
       case rel => exact ⟨(y151), (wrap64 (x5_1 + 1)), cl, H', ⟨by have := HK1.out; omega⟩, ⟨ra HO153.out⟩, ⟨bw⟩⟩
      rw [if_neg c6] at H; exact absurd H (by simp)
     rw [if_neg c5] at H; have c5b0 := beq_eq_false_iff_ne.mpr c5; have c5b1 := bne_iff_ne.mpr c5
     by_cases c8 : (bt a0 x5_1) = 61
     ·rw [if_pos c8] at H; have c8b0 := beq_iff_eq.mpr c8; have c8b1 := bne_eq_false_iff_eq.mpr c8; clear c8; obtain ⟨ji9, hji9⟩ : ∃ j_ : Int, (mn (wrap64 (x5_1 + 3)) (a0.size : Int)) = j_ := ⟨_, rfl⟩
      replace H : (if 0 ≤ (wrap64 (x5_1 + 1)) then (if (wrap64 (x5_1 + 1)) ≤ (ji9) then (if (ji9) ≤ (a0.size : Int) then ((qp_Byte.f k1 (a0.extract ((wrap64 (x5_1 + 1)) : Int).toNat ((ji9) : Int).toNat)).bind fun bt154 => (if bt154.2 = true then (if x4_1.length < 140737488355328 then (ew_quoted.l0 k1 a0 (x4_1 ++ [bt154.1]) (wrap64 ((wrap64 (x5_1 + 2)) + 1))) else (none)) else (some ((⟨#[]⟩ : ByteArray), false)))) else (none)) else (none)) else (none)) = some (r1, r2) := by first | (rw [hji9] at H; exact H) | (simp only [hji9] at H ⊢; exact H)
      have hji9_ : (if (a0.size : Int) < (wrap64 (x5_1 + 3)) then (a0.size : Int) else (wrap64 (x5_1 + 3))) = ji9 := hji9; obtain ⟨ji10, hji10⟩ : ∃ j_ : Int, (wrap64 (x5_1 + 1)) = j_ := ⟨_, rfl⟩
      replace H : (if 0 ≤ (ji10) then (if (ji10) ≤ (ji9) then (if (ji9) ≤ (a0.size : Int) then ((qp_Byte.f k1 (a0.extract ((ji10) : Int).toNat ((ji9) : Int).toNat)).bind fun bt154 => (if bt154.2 = true then (if x4_1.length < 140737488355328 then (ew_quoted.l0 k1 a0 (x4_1 ++ [bt154.1]) (wrap64 ((wrap64 (x5_1 + 2)) + 1))) else (none)) else (some ((⟨#[]⟩ : ByteArray), false)))) else (none)) else (none)) else (none)) = some (r1, r2) := by first | (rw [hji10] at H; exact H) | (simp only [hji10] at H ⊢; exact H)
      have hji10w : (IntKind.i64.wrap (x5_1 + 1)) = ji10 := (i64_w _).trans hji10
      by_cases c11 : 0 ≤ (ji10)
      ·rw [if_pos c11] at H; have c11b0 := eq_true c11; have c11b1 := decide_eq_true c11; clear c11
       by_cases c12 : (ji10) ≤ (ji9)
       ·rw [if_pos c12] at H; have c12b0 := eq_true c12; have c12b1 := decide_eq_true c12; clear c12
        by_cases c13 : (ji9) ≤ (a0.size : Int)
        ·rw [if_pos c13] at H; have c13b0 := eq_true c13; have c13b1 := decide_eq_true c13; clear c13; replace H := Option.bind_eq_some_iff.mp H; obtain ⟨⟨t154, t155⟩, A140, H⟩ := H; replace H : (if t155 = true then (if x4_1.length < 140737488355328 then (ew_quoted.l0 k1 a0 (x4_1 ++ [t154]) (wrap64 ((wrap64 (x5_1 + 2)) + 1))) else (none)) else (some ((⟨#[]⟩ : ByteArray), false))) = some (r1, r2) := H; have A14 := Aside0.mk A140; clear A140
         by_cases c15 : t155 = true
         ·subst c15; rw [if_pos rfl] at H
          by_cases c16 : x4_1.length < 140737488355328
          ·rw [if_pos c16] at H; have LMc16 := Aside0.mk c16; clear c16; obtain ⟨y156, hy156⟩ : ∃ y_ : List Int, y_ = (x4_1 ++ [t154]) := ⟨_, rfl⟩
           replace H : (ew_quoted.l0 k1 a0 y156 (wrap64 ((wrap64 (x5_1 + 2)) + 1))) = some (r1, r2) := by first | (rw [hy156]; with_reducible exact H) | (have H2_ := (Option.bind_some _ _).symm.trans H; rw [hy156]; with_reducible exact H2_) | (have H2_ := (Option.bind_some _ _).symm.trans H; with_reducible exact H2_) | with_reducible exact H | (rw [hy156]; exact H) | exact H
           have Ny156 := Aside0.mk hy156; clear hy156; have H' := Aside0.mk H; clear H; have p4 : 0 ≤ (x5_1 : Int) := od; have q4 : x5_1 < (a0.size : Int) := od; have hx4 := bt_at a0 x5_1; replace p4 := eq_true p4; replace q4 := eq_true q4
           go_wp2_with (first | ((with_reducible refine gate_callee (f := 209) rfl ?_); refine goesL_ (some 40) rfl rfl Tryz.func209 (by kernel_rfl) rfl #[.string (a0.extract ((ji10) : Int).toNat ((ji9) : Int).toNat)] rfl (by (try simp only [List.map_toArray, List.map_cons, List.map_nil]); first | done | (simp only [hji10, hji9]; rfl) | rfl | (simp only [List.length_drop, List.length_take]; rfl)) ?_; (with_reducible refine (qp_Byte.calls k1 (a0.extract ((ji10) : Int).toNat ((ji9) : Int).toNat) t154 true _ A14.out).mono ?_); rintro e w' ⟨rfl, ⟨nd, rfl⟩⟩; refine ⟨_, rfl, ?_⟩) | ((with_reducible refine gate_builtin (b := .append) (xs := #[.tmp 45, .tmp 47]) rfl ?_); at_builtin; refine Kd.R_append (Kd.int .u8) (w0 := w) w.heap.size rfl (.tmp 45) (.tmp 47) 125 5 (.int .u8 0) 1 rfl Tryz.underlying125 info5 rfl (by decide) (by omega) u4 x4_1 t154 [.int .u8 t154] (fun _ => True) (fun _ => False) rfl rfl ?aP (fun _ hk => hk.elim) ?aF ?aO ?aB ?aS ?aL ?_; (case aP => exact rfl); (case aB => exact bw); (case aF => exact (fun _ _ => trivial)); (case aO => exact (ra HO_4.out)); (case aS => exact (below_size bw)); (case aL => have := LMc16.out; omega); intro v157 w17 ho hb hg hat; rw [← Ny156.out] at ho; have n0_ := Aside0.mk (hb); have n1_ := Aside0.mk (ho); clear HB; clear HO_4; have HB := n0_; have HO158 := n1_; clear n0_ n1_; clear ho hb hg hat))
           go_roundg k1
           case measure => have := HK1.out; omega
           case rel => exact ⟨(y156), (wrap64 ((wrap64 (x5_1 + 2)) + 1)), cl, H', ⟨by have := HK1.out; omega⟩, ⟨ra HO158.out⟩, ⟨bw⟩⟩
          rw [if_neg c16] at H; exact absurd H (by simp)
         replace c15 := Bool.eq_false_iff.mpr c15; subst c15; rw [if_neg nft] at H; simp only [Option.some.injEq, Prod.mk.injEq] at H; obtain ⟨rfl, rfl⟩ := H; have p4 : 0 ≤ (x5_1 : Int) := od; have q4 : x5_1 < (a0.size : Int) := od; have hx4 := bt_at a0 x5_1; replace p4 := eq_true p4; replace q4 := eq_true q4
         go_wp2_with (first | ((with_reducible refine gate_callee (f := 209) rfl ?_); refine goesL_ (some 40) rfl rfl Tryz.func209 (by kernel_rfl) rfl #[.string (a0.extract ((ji10) : Int).toNat ((ji9) : Int).toNat)] rfl (by (try simp only [List.map_toArray, List.map_cons, List.map_nil]); first | done | (simp only [hji10, hji9]; rfl) | rfl | (simp only [List.length_drop, List.length_take]; rfl)) ?_; (with_reducible refine (qp_Byte.calls k1 (a0.extract ((ji10) : Int).toNat ((ji9) : Int).toNat) t154 false _ A14.out).mono ?_); rintro e w' ⟨rfl, ⟨nd, rfl⟩⟩; refine ⟨_, rfl, ?_⟩))
         go_ret2
         exact ⟨by first | rfl | (simp [errW_none, errW_some] <;> rfl) | (simp only [← hji9, ← hji10]; first | rfl | (simp [errW_none, errW_some] <;> rfl)) | (simp [*, errW_none, errW_some] <;> rfl), bw⟩
        rw [if_neg c13] at H; exact absurd H (by simp)
       rw [if_neg c12] at H; exact absurd H (by simp)
      rw [if_neg c11] at H; exact absurd H (by simp)
     rw [if_neg c8] at H; have c8b0 := beq_eq_false_iff_ne.mpr c8; have c8b1 := bne_iff_ne.mpr c8
     by_cases c19 : x4_1.length < 140737488355328
     ·rw [if_pos c19] at H; have LMc19 := Aside0.mk c19; clear c19; obtain ⟨y159, hy159⟩ : ∃ y_ : List Int, y_ = (x4_1 ++ [bt a0 x5_1]) := ⟨_, rfl⟩
      replace H : (ew_quoted.l0 k1 a0 y159 (wrap64 (x5_1 + 1))) = some (r1, r2) := by first | (rw [hy159]; with_reducible exact H) | (have H2_ := (Option.bind_some _ _).symm.trans H; rw [hy159]; with_reducible exact H2_) | (have H2_ := (Option.bind_some _ _).symm.trans H; with_reducible exact H2_) | with_reducible exact H | (rw [hy159]; exact H) | exact H
      have Ny159 := Aside0.mk hy159; clear hy159; have H' := Aside0.mk H; clear H; have p4 : 0 ≤ (x5_1 : Int) := od; have q4 : x5_1 < (a0.size : Int) := od; have hx4 := bt_at a0 x5_1; replace p4 := eq_true p4; replace q4 := eq_true q4; have p18 : 0 ≤ (x5_1 : Int) := od; have q18 : x5_1 < (a0.size : Int) := od; have hx18 := bt_at a0 x5_1; replace p18 := eq_true p18; replace q18 := eq_true q18
      go_wp2_with (first | ((with_reducible refine gate_builtin (b := .append) (xs := #[.tmp 17, .tmp 21]) rfl ?_); at_builtin; refine Kd.R_append (Kd.int .u8) (w0 := w) w.heap.size rfl (.tmp 17) (.tmp 21) 125 5 (.int .u8 0) 1 rfl Tryz.underlying125 info5 rfl (by decide) (by omega) u4 x4_1 (bt a0 x5_1) [.int .u8 (bt a0 x5_1)] (fun _ => True) (fun _ => False) rfl rfl ?aP (fun _ hk => hk.elim) ?aF ?aO ?aB ?aS ?aL ?_; (case aP => exact rfl); (case aB => exact bw); (case aF => exact (fun _ _ => trivial)); (case aO => exact (ra HO_4.out)); (case aS => exact (below_size bw)); (case aL => have := LMc19.out; omega); intro v160 w20 ho hb hg hat; rw [← Ny159.out] at ho; have n0_ := Aside0.mk (hb); have n1_ := Aside0.mk (ho); clear HB; clear HO_4; have HB := n0_; have HO161 := n1_; clear n0_ n1_; clear ho hb hg hat))
      go_roundg k1
      case measure => have := HK1.out; omega
      case rel => exact ⟨(y159), (wrap64 (x5_1 + 1)), cl, H', ⟨by have := HK1.out; omega⟩, ⟨ra HO161.out⟩, ⟨bw⟩⟩
     rw [if_neg c19] at H; exact absurd H (by simp)
    rw [if_neg c3] at H; exact absurd H (by simp)
   rw [if_neg c2] at H; have c2b0 := decide_eq_false c2; clear c2; simp only [Option.some.injEq, Prod.mk.injEq] at H; obtain ⟨rfl, rfl⟩ := H; have hcv21 := own_string (P := Tryz.prog) Tryz.underlying125 Tryz.underlying5 Tryz.underlying9 (Kd.own_of_R HO_4.out)
   go_wp2
   go_ret2
   exact ⟨ew, bw⟩

def ew_octets.j0 : Nat → ByteArray → ByteArray → Bool → Option (ByteArray × Bool)
 | 0, _, _, _ => none
 | k + 1, x1, x8, x9 => if x9 = true then ((ew_quoted.f k x1).bind fun bt177 => (some (bt177.1, bt177.2))) else (if x8.toList = ([98] : List UInt8) then ((b64_Decode.f k x1).bind fun bt179 => (some (bt179.1, (bt179.2 == 0)))) else (if x8.toList = ([66] : List UInt8) then ((b64_Decode.f k x1).bind fun bt181 => (some (bt181.1, (bt181.2 == 0)))) else (some ((⟨#[]⟩ : ByteArray), false))))
def ew_octets.f (k : Nat) (a0 : ByteArray) (a1 : ByteArray) : Option (ByteArray × Bool) := if a0.toList = ([113] : List UInt8) then (ew_octets.j0 k a1 a0 (a0.toList == ([113] : List UInt8))) else (ew_octets.j0 k a1 a0 (a0.toList == ([81] : List UInt8)))
set_option maxHeartbeats 8000000 in
set_option maxRecDepth 100000 in
theorem ew_octets.calls (k : Nat) (a0 : ByteArray) (a1 : ByteArray) (r1 : ByteArray) (r2 : Bool) (w : World) (h : ew_octets.f k a0 a1 = some (r1, r2)) :
  Calls Tryz.prog 152 #[.string a0, .string a1] w fun e w' => e = .returned (.tuple #[.string r1, .bool r2]) ∧ Below w.heap.size w w' := by
 have HB := Aside0.mk (Below.refl w.heap.size w); have H : (if a0.toList = ([113] : List UInt8) then (ew_octets.j0 k a1 a0 (a0.toList == ([113] : List UInt8))) else (ew_octets.j0 k a1 a0 (a0.toList == ([81] : List UInt8)))) = some (r1, r2) := h; clear h; have HC3 := Aside0.mk H; clear H
 go_enter Tryz.func152, Tryz.ntmps152
 go_upto_if 9 with (fail)
 go_cut [9] (fun v9 wc => ∃ (kq : Nat) (x9_2 : Bool), v9 = .bool x9_2 ∧ Aside0 (ew_octets.j0 kq a1 a0 x9_2 = some (r1, r2)) ∧ Aside0 (kq ≤ k) ∧ Aside0 (Below w.heap.size w wc))
 case first =>
  have H := HC3.out; clear HC3
  by_cases c4 : a0.toList = ([113] : List UInt8)
  ·rw [if_pos c4] at H; have c4b0 := beq_iff_eq.mpr c4; have c4b1 := bne_eq_false_iff_eq.mpr c4; clear c4
   (first | rw [c4b0] | (simp only [i64_w, i32_w]; rw [c4b0]) | skip)
   have H' := Aside0.mk H; clear H
   go_wp2
   go_meet
   case rel => exact ⟨_, ((a0.toList == ([113] : List UInt8))), cl, H', ⟨by first | omega | exact Nat.le_refl _⟩, ⟨bw⟩⟩
  rw [if_neg c4] at H; have c4b0 := beq_eq_false_iff_ne.mpr c4; have c4b1 := bne_iff_ne.mpr c4
  (first | rw [c4b0] | (simp only [i64_w, i32_w]; rw [c4b0]) | skip)
  have H' := Aside0.mk H; clear H
  go_wp2
  go_meet
  case rel => exact ⟨_, ((a0.toList == ([81] : List UInt8))), cl, H', ⟨by first | omega | exact Nat.le_refl _⟩, ⟨bw⟩⟩
 case rest =>
  clear HC3
  try clear c1
  try clear p2
  try clear c4
  try clear c4b0
  try clear c4b1
  obtain ⟨kq, x9_2, rfl, HA, HJ2, HB⟩ := hcut; cases kq with
  | zero => exact absurd HA.out (by simp [ew_octets.j0])
  | succ kj2 =>
   have H := HA.out; clear HA; simp only [ew_octets.j0] at H
   by_cases c5 : x9_2 = true
   ·subst c5; rw [if_pos rfl] at H; replace H := Option.bind_eq_some_iff.mp H; obtain ⟨⟨t177, t178⟩, A60, H⟩ := H; replace H : (some (t177, t178)) = some (r1, r2) := H; have A6 := Aside0.mk A60; clear A60; simp only [Option.some.injEq, Prod.mk.injEq] at H; obtain ⟨rfl, rfl⟩ := H
    go_wp2_with (first | ((with_reducible refine gate_callee (f := 186) rfl ?_); refine goesL_ (some 13) rfl rfl Tryz.func186 (by kernel_rfl) rfl #[.string a1] rfl am ?_; (with_reducible refine (ew_quoted.calls kj2 a1 t177 t178 _ A6.out).mono ?_); rintro e w7 ⟨rfl, hb⟩; refine ⟨_, rfl, ?_⟩; have n0_ := Aside0.mk (below_step bw hb); clear HB; have HB := n0_; clear n0_; (try clear hb); (try clear hb2); (try clear hk); (try clear hi)))
    go_ret2
    exact ⟨ew, bw⟩
   replace c5 := Bool.eq_false_iff.mpr c5; subst c5; rw [if_neg nft] at H
   by_cases c8 : a0.toList = ([98] : List UInt8)
   ·rw [if_pos c8] at H; have c8b0 := beq_iff_eq.mpr c8; have c8b1 := bne_eq_false_iff_eq.mpr c8; clear c8; replace H := Option.bind_eq_some_iff.mp H; obtain ⟨⟨t179, t180⟩, A90, H⟩ := H; replace H : (some (t179, (t180 == 0))) = some (r1, r2) := H; have A9 := Aside0.mk A90; clear A90; simp only [Option.some.injEq, Prod.mk.injEq] at H; obtain ⟨rfl, rfl⟩ := H
    go_wp2_with (first | ((with_reducible refine gate_callee (f := 187) rfl ?_); refine goesL_ (some 21) rfl rfl Tryz.func187 (by kernel_rfl) rfl #[.string a1] rfl am ?_; (with_reducible refine (b64_Decode.calls kj2 a1 t179 t180 _ A9.out).mono ?_); rintro e w10 ⟨rfl, hb⟩; refine ⟨_, rfl, ?_⟩; have n0_ := Aside0.mk (below_step bw hb); clear HB; have HB := n0_; clear n0_; (try clear hb); (try clear hb2); (try clear hk); (try clear hi)))
    go_ret2
    exact ⟨ew, bw⟩
   rw [if_neg c8] at H; have c8b0 := beq_eq_false_iff_ne.mpr c8; have c8b1 := bne_iff_ne.mpr c8
   by_cases c11 : a0.toList = ([66] : List UInt8)
   ·rw [if_pos c11] at H; have c11b0 := beq_iff_eq.mpr c11; have c11b1 := bne_eq_false_iff_eq.mpr c11; clear c11; replace H := Option.bind_eq_some_iff.mp H; obtain ⟨⟨t181, t182⟩, A120, H⟩ := H; replace H : (some (t181, (t182 == 0))) = some (r1, r2) := H; have A12 := Aside0.mk A120; clear A120; simp only [Option.some.injEq, Prod.mk.injEq] at H; obtain ⟨rfl, rfl⟩ := H
    go_wp2_with (first | ((with_reducible refine gate_callee (f := 187) rfl ?_); refine goesL_ (some 21) rfl rfl Tryz.func187 (by kernel_rfl) rfl #[.string a1] rfl am ?_; (with_reducible refine (b64_Decode.calls kj2 a1 t181 t182 _ A12.out).mono ?_); rintro e w13 ⟨rfl, hb⟩; refine ⟨_, rfl, ?_⟩; have n0_ := Aside0.mk (below_step bw hb); clear HB; have HB := n0_; clear n0_; (try clear hb); (try clear hb2); (try clear hk); (try clear hi)))
    go_ret2
    exact ⟨ew, bw⟩
   rw [if_neg c11] at H; have c11b0 := beq_eq_false_iff_ne.mpr c11; have c11b1 := bne_iff_ne.mpr c11; simp only [Option.some.injEq, Prod.mk.injEq] at H; obtain ⟨rfl, rfl⟩ := H
   go_wp2
   go_ret2
   exact ⟨ew, bw⟩

def ew_solid.l0 : Nat → ByteArray → Int → Int → Option (Bool)
 | 0, _, _, _ => none
 | k + 1, x0, x5, x6 => if x6 < x5 then (if 0 ≤ x6 then (if x6 < (x0.size : Int) then (if (bt x0 x6) ≤ 32 then (some false) else (if (bt x0 x6) > 126 then (some false) else (ew_solid.l0 k x0 x5 (wrap64 (x6 + 1))))) else (none)) else (none)) else (some true)
def ew_solid.f (k : Nat) (a0 : ByteArray) : Option (Bool) := ew_solid.l0 k a0 (a0.size : Int) 0
set_option maxHeartbeats 8000000 in
set_option maxRecDepth 100000 in
theorem ew_solid.calls (k : Nat) (a0 : ByteArray) (r : Bool) (w : World) (h : ew_solid.f k a0 = some r) :
  Calls Tryz.prog 151 #[.string a0] w fun e w' => e = .returned (.bool r) ∧ Drawn0 w w' := by
 have H : (ew_solid.l0 k a0 (a0.size : Int) 0) = some r := h; clear h; have H' := Aside0.mk H; clear H
 go_enter Tryz.func151, Tryz.ntmps151
 go_wp2
 go_loopg [6] k (fun kq v6 w' => ∃ (x6_1 : Int), v6 = .int .i64 x6_1 ∧ Aside0 (ew_solid.l0 kq a0 (a0.size : Int) x6_1 = some r) ∧ Aside0 (kq ≤ k) ∧ Drawn0 w w')
 case atStart => exact ⟨(0), cl, H', ⟨Nat.le_refl _⟩, d0⟩
 case round =>
  clear H'
  try clear c1
  obtain ⟨x6_1, rfl, HA, HK1, ⟨m1, rfl⟩⟩ := hrel; cases gk with
  | zero => exact absurd HA.out (by simp [ew_solid.l0])
  | succ k1 =>
   have H := HA.out; clear HA; simp only [ew_solid.l0] at H
   by_cases c2 : x6_1 < (a0.size : Int)
   ·rw [if_pos c2] at H; have c2b0 := decide_eq_true c2; clear c2
    by_cases c3 : 0 ≤ x6_1
    ·rw [if_pos c3] at H; have c3b0 := decide_eq_true c3; clear c3
     by_cases c4 : x6_1 < (a0.size : Int)
     ·rw [if_pos c4] at H; have c4b0 := decide_eq_true c4; clear c4
      by_cases c6 : (bt a0 x6_1) ≤ 32
      ·rw [if_pos c6] at H; have c6b0 := decide_eq_true c6; clear c6; obtain rfl := Option.some.inj H; have p5 : 0 ≤ (x6_1 : Int) := od; have q5 : x6_1 < (a0.size : Int) := od; have hx5 := bt_at a0 x6_1; replace p5 := eq_true p5; replace q5 := eq_true q5
       go_wp2
       go_ret
       exact ⟨cl, d0⟩
      rw [if_neg c6] at H; have c6b0 := decide_eq_false c6; clear c6
      by_cases c8 : (bt a0 x6_1) > 126
      ·rw [if_pos c8] at H; have c8b0 : decide (126 < (bt a0 x6_1)) = true := decide_eq_true c8; clear c8; obtain rfl := Option.some.inj H; have p5 : 0 ≤ (x6_1 : Int) := od; have q5 : x6_1 < (a0.size : Int) := od; have hx5 := bt_at a0 x6_1; replace p5 := eq_true p5; replace q5 := eq_true q5; have p7 : 0 ≤ (x6_1 : Int) := od; have q7 : x6_1 < (a0.size : Int) := od; have hx7 := bt_at a0 x6_1; replace p7 := eq_true p7; replace q7 := eq_true q7
       go_wp2
       go_ret
       exact ⟨cl, d0⟩
      rw [if_neg c8] at H; have c8b0 : decide (126 < (bt a0 x6_1)) = false := decide_eq_false c8; clear c8; have H' := Aside0.mk H; clear H; have p5 : 0 ≤ (x6_1 : Int) := od; have q5 : x6_1 < (a0.size : Int) := od; have hx5 := bt_at a0 x6_1; replace p5 := eq_true p5; replace q5 := eq_true q5; have p7 : 0 ≤ (x6_1 : Int) := od; have q7 : x6_1 < (a0.size : Int) := od; have hx7 := bt_at a0 x6_1; replace p7 := eq_true p7; replace q7 := eq_true q7
      go_wp2
      go_roundg k1
      case measure => have := HK1.out; omega
      case rel => exact ⟨(wrap64 (x6_1 + 1)), cl, H', ⟨by have := HK1.out; omega⟩, d0⟩
     rw [if_neg c4] at H; exact absurd H (by simp)
    rw [if_neg c3] at H; exact absurd H (by simp)
   rw [if_neg c2] at H; have c2b0 := decide_eq_false c2; clear c2; obtain rfl := Option.some.inj H
   go_wp2
   go_ret
   exact ⟨cl, d0⟩

def stringslite_HasPrefix.f (a0 : ByteArray) (a1 : ByteArray) : Option (Bool) := if (a0.size : Int) ≥ (a1.size : Int) then (if 0 ≤ (a1.size : Int) then (if (a1.size : Int) ≤ (a0.size : Int) then (some ((a0.extract 0 ((a1.size : Int) : Int).toNat).toList == a1.toList)) else (none)) else (none)) else (some false)
set_option maxHeartbeats 8000000 in
set_option maxRecDepth 100000 in
theorem stringslite_HasPrefix.calls (a0 : ByteArray) (a1 : ByteArray) (r : Bool) (w : World) (h : stringslite_HasPrefix.f a0 a1 = some r) :
  Calls Tryz.prog 94 #[.string a0, .string a1] w fun e w' => e = .returned (.bool r) ∧ Drawn0 w w' := by
 have H : (if (a0.size : Int) ≥ (a1.size : Int) then (if 0 ≤ (a1.size : Int) then (if (a1.size : Int) ≤ (a0.size : Int) then (some ((a0.extract 0 ((a1.size : Int) : Int).toNat).toList == a1.toList)) else (none)) else (none)) else (some false)) = some r := h; clear h
 by_cases c3 : (a0.size : Int) ≥ (a1.size : Int)
 ·rw [if_pos c3] at H; have c3b0 : decide ((a1.size : Int) ≤ (a0.size : Int)) = true := decide_eq_true c3; have c3b1 : decide (a1.size ≤ a0.size) = true := decide_eq_true (Int.ofNat_le.mp c3); clear c3
  by_cases c4 : 0 ≤ (a1.size : Int)
  ·rw [if_pos c4] at H; have c4b0 := eq_true c4; have c4b1 := decide_eq_true c4; clear c4
   by_cases c5 : (a1.size : Int) ≤ (a0.size : Int)
   ·rw [if_pos c5] at H; have c5b0 := eq_true c5; have c5b1 := decide_eq_true c5; clear c5; obtain rfl := Option.some.inj H
    go_enter Tryz.func94, Tryz.ntmps94
    go_wp2
    go_ret
    exact ⟨cl, d0⟩
   rw [if_neg c5] at H; exact absurd H (by simp)
  rw [if_neg c4] at H; exact absurd H (by simp)
 rw [if_neg c3] at H; have c3b0 : decide ((a1.size : Int) ≤ (a0.size : Int)) = false := decide_eq_false c3; have c3b1 : decide (a1.size ≤ a0.size) = false := decide_eq_false (fun h => c3 (Int.ofNat_le.mpr h)); clear c3; obtain rfl := Option.some.inj H
 go_enter Tryz.func94, Tryz.ntmps94
 go_wp2
 go_ret
 exact ⟨cl, d0⟩

def stringslite_CutPrefix.f (a0 : ByteArray) (a1 : ByteArray) : Option (ByteArray × Bool) := (stringslite_HasPrefix.f a0 a1).bind fun t142 => (if t142 = true then (if 0 ≤ (a1.size : Int) then (if (a1.size : Int) ≤ (a0.size : Int) then (some (a0.extract ((a1.size : Int) : Int).toNat a0.size, true)) else (none)) else (none)) else (some (a0, false)))
set_option maxHeartbeats 8000000 in
set_option maxRecDepth 100000 in
theorem stringslite_CutPrefix.calls (a0 : ByteArray) (a1 : ByteArray) (r1 : ByteArray) (r2 : Bool) (w : World) (h : stringslite_CutPrefix.f a0 a1 = some (r1, r2)) :
  Calls Tryz.prog 184 #[.string a0, .string a1] w fun e w' => e = .returned (.tuple #[.string r1, .bool r2]) ∧ Drawn0 w w' := by
 have H : ((stringslite_HasPrefix.f a0 a1).bind fun t142 => (if t142 = true then (if 0 ≤ (a1.size : Int) then (if (a1.size : Int) ≤ (a0.size : Int) then (some (a0.extract ((a1.size : Int) : Int).toNat a0.size, true)) else (none)) else (none)) else (some (a0, false)))) = some (r1, r2) := h; clear h; replace H := Option.bind_eq_some_iff.mp H; obtain ⟨t142, A30, H⟩ := H; have A3 := Aside0.mk A30; clear A30
 by_cases c4 : t142 = true
 ·subst c4; rw [if_pos rfl] at H
  by_cases c5 : 0 ≤ (a1.size : Int)
  ·rw [if_pos c5] at H; have c5b0 := eq_true c5; have c5b1 := decide_eq_true c5; clear c5
   by_cases c6 : (a1.size : Int) ≤ (a0.size : Int)
   ·rw [if_pos c6] at H; have c6b0 := eq_true c6; have c6b1 := decide_eq_true c6; clear c6; simp only [Option.some.injEq, Prod.mk.injEq] at H; obtain ⟨rfl, rfl⟩ := H
    go_enter Tryz.func184, Tryz.ntmps184
    go_wp2_with (first | ((with_reducible refine gate_callee (f := 94) rfl ?_); refine goesL_ (some 8) rfl rfl Tryz.func94 (by kernel_rfl) rfl #[.string a0, .string a1] rfl am ?_; (with_reducible refine (stringslite_HasPrefix.calls a0 a1 true _ A3.out).mono ?_); rintro e w' ⟨rfl, ⟨nd, rfl⟩⟩; refine ⟨_, rfl, ?_⟩))
    go_ret2
    exact ⟨cl, d0⟩
   rw [if_neg c6] at H; exact absurd H (by simp)
  rw [if_neg c5] at H; exact absurd H (by simp)
 replace c4 := Bool.eq_false_iff.mpr c4; subst c4; rw [if_neg nft] at H; simp only [Option.some.injEq, Prod.mk.injEq] at H; obtain ⟨rfl, rfl⟩ := H
 go_enter Tryz.func184, Tryz.ntmps184
 go_wp2_with (first | ((with_reducible refine gate_callee (f := 94) rfl ?_); refine goesL_ (some 8) rfl rfl Tryz.func94 (by kernel_rfl) rfl #[.string a0, .string a1] rfl am ?_; (with_reducible refine (stringslite_HasPrefix.calls a0 a1 false _ A3.out).mono ?_); rintro e w' ⟨rfl, ⟨nd, rfl⟩⟩; refine ⟨_, rfl, ?_⟩))
 go_ret2
 exact ⟨cl, d0⟩

def strings_CutPrefix.f (a0 : ByteArray) (a1 : ByteArray) : Option (ByteArray × Bool) := (stringslite_CutPrefix.f a0 a1).bind fun bt143 => (some (bt143.1, bt143.2))
set_option maxHeartbeats 8000000 in
set_option maxRecDepth 100000 in
theorem strings_CutPrefix.calls (a0 : ByteArray) (a1 : ByteArray) (r1 : ByteArray) (r2 : Bool) (w : World) (h : strings_CutPrefix.f a0 a1 = some (r1, r2)) :
  Calls Tryz.prog 149 #[.string a0, .string a1] w fun e w' => e = .returned (.tuple #[.string r1, .bool r2]) ∧ Drawn0 w w' := by
 have H : ((stringslite_CutPrefix.f a0 a1).bind fun bt143 => (some (bt143.1, bt143.2))) = some (r1, r2) := h; clear h; replace H := Option.bind_eq_some_iff.mp H; obtain ⟨⟨t143, t144⟩, A30, H⟩ := H; replace H : (some (t143, t144)) = some (r1, r2) := H; have A3 := Aside0.mk A30; clear A30; simp only [Option.some.injEq, Prod.mk.injEq] at H; obtain ⟨rfl, rfl⟩ := H
 go_enter Tryz.func149, Tryz.ntmps149
 go_wp2_with (first | ((with_reducible refine gate_callee (f := 184) rfl ?_); refine goesL_ (some 8) rfl rfl Tryz.func184 (by kernel_rfl) rfl #[.string a0, .string a1] rfl am ?_; (with_reducible refine (stringslite_CutPrefix.calls a0 a1 t143 t144 _ A3.out).mono ?_); rintro e w' ⟨rfl, ⟨nd, rfl⟩⟩; refine ⟨_, rfl, ?_⟩))
 go_ret2
 exact ⟨cl, d0⟩

def strings_HasPrefix.f (a0 : ByteArray) (a1 : ByteArray) : Option (Bool) := (stringslite_HasPrefix.f a0 a1).bind fun t141 => (some t141)
set_option maxHeartbeats 8000000 in
set_option maxRecDepth 100000 in
theorem strings_HasPrefix.calls (a0 : ByteArray) (a1 : ByteArray) (r : Bool) (w : World) (h : strings_HasPrefix.f a0 a1 = some r) :
  Calls Tryz.prog 56 #[.string a0, .string a1] w fun e w' => e = .returned (.bool r) ∧ Drawn0 w w' := by
 have H : ((stringslite_HasPrefix.f a0 a1).bind fun t141 => (some t141)) = some r := h; clear h; replace H := Option.bind_eq_some_iff.mp H; obtain ⟨t141, A30, H⟩ := H; have A3 := Aside0.mk A30; clear A30; obtain rfl := Option.some.inj H
 go_enter Tryz.func56, Tryz.ntmps56
 go_wp2_with (first | ((with_reducible refine gate_callee (f := 94) rfl ?_); refine goesL_ (some 7) rfl rfl Tryz.func94 (by kernel_rfl) rfl #[.string a0, .string a1] rfl am ?_; (with_reducible refine (stringslite_HasPrefix.calls a0 a1 t141 _ A3.out).mono ?_); rintro e w' ⟨rfl, ⟨nd, rfl⟩⟩; refine ⟨_, rfl, ?_⟩))
 go_ret
 exact ⟨cl, d0⟩

end Go.Proofs.YtihabmcaplnbcaaGreatDoor.Fn
set_option linter.unusedVariables false
set_option linter.unusedSimpArgs false
namespace Go.Proofs.YtihabmcaplnbcaaGreatDoor.Pl
open Go.RowKit Go.Proofs.YtihabmcaplnbcaaGreatDoorW.PrintWords
def signsR (cs s : ByteArray) : ByteArray × Bool :=
 if fold (bs cs) = [117, 115, 45, 97, 115, 99, 105, 105] then (if asciiL (bs s) = true then (s, true) else (str [], false))
 else if fold (bs cs) = [117, 116, 102, 45, 56] then (s, valid s)
 else if fold (bs cs) = [105, 115, 111, 45, 56, 56, 53, 57, 45, 49] then (str ((bs s).flatMap fun c => er c.toNat), true)
 else (str [], false)
end Go.Proofs.YtihabmcaplnbcaaGreatDoor.Pl
namespace Go.Proofs.YtihabmcaplnbcaaGreatDoor.Fn
open Go.RowKit Go.Proofs.YtihabmcaplnbcaaGreatDoorW.PrintWords

def ew_signs.f (a0 a1 : ByteArray) : Option (ByteArray × Bool) := if a0.size ≤ 1000000000 ∧ a1.size ≤ 1000000000 then some (Pl.signsR a0 a1) else none
set_option maxHeartbeats 4000000 in
set_option maxRecDepth 100000 in
theorem ew_signs.calls (a0 a1 r1 : ByteArray) (r2 : Bool) (w : World) (hG : Glob w) (h : ew_signs.f a0 a1 = some (r1, r2)) :
  Calls Tryz.prog 153 #[.string a0, .string a1] w fun e w' => e = .returned (.tuple #[.string r1, .bool r2]) ∧ Below w.heap.size w w' := by
 unfold ew_signs.f at h
 by_cases hs : a0.size ≤ 1000000000 ∧ a1.size ≤ 1000000000
 ·rw [if_pos hs] at h
  have hr := Option.some.inj h
  clear h
  have hf : glyph_Fold.f a0 = some (Pl.str (Pl.fold (Pl.bs a0))) := by unfold glyph_Fold.f; rw [if_pos (by omega)]; rfl
  obtain ⟨F, hF⟩ : ∃ F, Pl.str (Pl.fold (Pl.bs a0)) = F := ⟨_, rfl⟩
  rw [hF] at hf
  have hl : F.toList = Pl.fold (Pl.bs a0) := by rw [← hF, Pl.toList_str]
  have HF := hid hf
  have HG := hid hG
  unfold Pl.signsR at hr
  rw [← hl] at hr
  clear hf hF hl hG
  by_cases h1 : F.toList = [117, 115, 45, 97, 115, 99, 105, 105]
  ·rw [if_pos h1] at hr
   have c1 : (F.toList == [117, 115, 45, 97, 115, 99, 105, 105]) = true := beq_iff_eq.2 h1
   have HR := hid hr
   clear hr h1
   go_enter Tryz.func153, Tryz.ntmps153
   go_wp2_with (go_at_call 48; refine (glyph_Fold.calls a0 F _ HF.out).mono ?_; rintro e W1 ⟨rfl, b1⟩)
   go_loopw [15] (fun v15 wr => ∃ k : Nat, k ≤ a1.size ∧ v15 = .int .i64 k ∧ Below w.heap.size w wr ∧ Hid (Pl.asciiL ((Pl.bs a1).take k) = true)) (fun v15 _ => a1.size - (intOf v15).toNat)
   case atStart => exact ⟨0, Nat.zero_le _, rfl, b1, rfl⟩
   case round =>
    obtain ⟨k, hk, rfl, hB, hA⟩ := hrel
    by_cases hlt : k < a1.size
    ·have hsn := Pl.take_snoc a1 k hlt
     have hA2 : Hid (Pl.asciiL ((Pl.bs a1).take (k + 1)) = decide (a1[k].toNat ≤ 127)) := by
      show Pl.asciiL (a1.data.toList.take (k + 1)) = _
      rw [hsn]
      have : Pl.asciiL (a1.data.toList.take k) = true := hA.out
      unfold Pl.asciiL at this ⊢
      rw [List.all_append, this]
      simp
     clear hsn hA
     by_cases hc : 127 < (a1[k].toNat : Int)
     ·have hN : Hid (Pl.asciiL (Pl.bs a1) = false) := by
       show _ = _
       have h2 := hA2.out
       rw [decide_eq_false (by omega)] at h2
       rw [← List.take_append_drop (k + 1) (Pl.bs a1)]
       unfold Pl.asciiL at h2 ⊢
       rw [List.all_append, h2]
       rfl
      have HR' := HR.out
      rw [hN.out, if_neg (by decide)] at HR'
      injection HR' with e1 e2
      subst e1 e2
      clear hA2 hN HR
      go_wp2
      go_ret2
      exact ⟨rfl, hB⟩
     have hc2 : (a1[k].toNat : Int) ≤ 127 := by omega
     have hA3 : Hid (Pl.asciiL ((Pl.bs a1).take (k + 1)) = true) := by
      show _ = _
      rw [hA2.out]
      exact decide_eq_true (by omega)
     clear hA2 hc
     go_wp2
     go_roundw
     case rel => exact ⟨k + 1, by omega, by go_num, hB, hA3⟩
     case measure => simp [intOf]; omega
    have hA3 : Pl.asciiL (Pl.bs a1) = true := by
     have := hA.out
     rwa [List.take_of_length_le (by rw [Pl.bs_length]; omega)] at this
    have HR' := HR.out
    rw [hA3, if_pos rfl] at HR'
    injection HR' with e1 e2
    subst e1 e2
    clear hA3 hA HR
    go_wp2
    go_ret2
    exact ⟨rfl, hB⟩
  rw [if_neg h1] at hr
  have c1 : (F.toList == [117, 115, 45, 97, 115, 99, 105, 105]) = false := beq_eq_false_iff_ne.2 h1
  by_cases h2 : F.toList = [117, 116, 102, 45, 56]
  ·rw [if_pos h2] at hr
   injection hr with e1 e2
   have hv : glyph_Valid.f a1 = some r2 := by unfold glyph_Valid.f; rw [if_pos (by omega), e2]
   subst e1
   have c2 : (F.toList == [117, 116, 102, 45, 56]) = true := beq_iff_eq.2 h2
   have HV := hid hv
   clear hv e2
   go_enter Tryz.func153, Tryz.ntmps153
   go_wp2_with (first | (go_at_call 48; refine (glyph_Fold.calls a0 F _ HF.out).mono ?_; rintro e W1 ⟨rfl, b1⟩; have hG1 := hid (HG.out.below b1)) | (go_at_call 188; refine (glyph_Valid.calls a1 r2 _ hG1.out HV.out).mono ?_; rintro e W2 ⟨rfl, b2⟩))
   go_ret2
   exact ⟨rfl, b1.trans (b2.mono b1.size)⟩
  rw [if_neg h2] at hr
  have c2 : (F.toList == [117, 116, 102, 45, 56]) = false := beq_eq_false_iff_ne.2 h2
  by_cases h3 : F.toList = [105, 115, 111, 45, 56, 56, 53, 57, 45, 49]
  ·rw [if_pos h3] at hr
   injection hr with e1 e2
   subst e2
   have c3 : (F.toList == [105, 115, 111, 45, 56, 56, 53, 57, 45, 49]) = true := beq_iff_eq.2 h3
   have HR := hid e1
   clear e1
   go_enter Tryz.func153, Tryz.ntmps153
   go_wp2_with (go_at_call 48; refine (glyph_Fold.calls a0 F _ HF.out).mono ?_; rintro e W1 ⟨rfl, b1⟩)
   have hB1 := b1.size
   go_loopw [33] (fun v33 wr => ∃ k : Nat, k ≤ a1.size ∧ v33 = .int .i64 k ∧ isBd W1.heap.size W1.heap.size (Lib.byteCells (((Pl.bs a1).take k).flatMap fun c => Pl.er c.toNat)) wr ∧ Below W1.heap.size W1 wr ∧ (((Pl.bs a1).take k).flatMap fun c => Pl.er c.toNat).length ≤ 4 * k) (fun v33 _ => a1.size - (intOf v33).toNat)
   case atStart => exact ⟨0, Nat.zero_le _, rfl, Lib.IsBuilderF.of (Lib.fresh_isBuilder _ _ W1), (Below.refl _ W1).alloc (Nat.le_refl _) _, by simp⟩
   case round =>
    obtain ⟨k, hk, rfl, hI, hB, hl⟩ := hrel
    have hB2 := hB.size
    by_cases hlt : k < a1.size
    ·have hct := a1[k].toNat_lt
     have hsn : ((Pl.bs a1).take (k + 1)).flatMap (fun c => Pl.er c.toNat) = ((Pl.bs a1).take k).flatMap (fun c => Pl.er c.toNat) ++ Pl.er a1[k].toNat := by
      rw [show (Pl.bs a1).take (k + 1) = (Pl.bs a1).take k ++ [a1[k]] from Pl.take_snoc a1 k hlt]
      simp
     have hl4 := Lib.runeCells_le (a1[k].toNat : Int)
     have hE : Lib.byteCells (Pl.er a1[k].toNat) = Lib.runeCells (a1[k].toNat : Int) := Lib.byteCells_encodeRune _
     have hE2 : (Pl.er a1[k].toNat).length ≤ 4 := by
      rw [Lib.runeCells_length] at hl4
      exact hl4.2
     have HS := hid hsn
     have HE := hid hE
     clear hsn hl4 hE
     go_wp2_with (go_at_call 104; refine (bd_rune W1.heap.size W1.heap.size _ _ (by omega) (by omega) _ hI (by rw [Lib.byteCells_length]; omega) hB2).mono ?_; rintro e W2 ⟨rfl, h1, b2, _⟩)
     go_roundw
     case rel =>
      refine ⟨k + 1, by omega, by go_num, ?_, hB.trans b2, ?_⟩
      ·rw [HS.out, Lib.byteCells_append, HE.out]; exact h1.is
      rw [HS.out, List.length_append]; omega
     case measure => simp [intOf]; omega
    have hend : Hid (((Pl.bs a1).take k).flatMap (fun c => Pl.er c.toNat) = (Pl.bs a1).flatMap (fun c => Pl.er c.toNat)) := by
     show _ = _
     rw [List.take_of_length_le (by rw [Pl.bs_length]; omega)]
    go_wp2_with (go_at_call 89; refine (Tryz.Builder_String_any_k W1.heap.size W1.heap.size _ _ hI hB2).mono ?_; rintro e W2 ⟨rfl, _, b2, _⟩)
    go_ret2
    refine ⟨?_, b1.trans ((hB.trans b2).mono hB1)⟩
    rw [← HR.out, ← hend.out]
    rfl
  rw [if_neg h3] at hr
  injection hr with e1 e2
  subst e1 e2
  have c3 : (F.toList == [105, 115, 111, 45, 56, 56, 53, 57, 45, 49]) = false := beq_eq_false_iff_ne.2 h3
  go_enter Tryz.func153, Tryz.ntmps153
  go_wp2_with (go_at_call 48; refine (glyph_Fold.calls a0 F _ HF.out).mono ?_; rintro e W1 ⟨rfl, b1⟩)
  go_ret2
  exact ⟨rfl, b1⟩
 rw [if_neg hs] at h; exact absurd h (by simp)
end Go.Proofs.YtihabmcaplnbcaaGreatDoor.Fn
set_option linter.unusedVariables false
namespace Go.Proofs.YtihabmcaplnbcaaGreatDoor.Fn
open Go.RowKit Go.Proofs.YtihabmcaplnbcaaGreatDoorW.PrintWords

def strings_SplitN.f (a0 a1 : ByteArray) (a2 : Int) : Option (List ByteArray) :=
 if a0.size < 4294967281 then (if 1 ≤ a1.size then (if 1 ≤ a2 ∧ a2 ≤ 1000 then some (Lib.splitB a1 0 (min a2.toNat (a0.size + 1) - 1) a0) else none) else none) else none
theorem strings_SplitN.calls (a0 a1 : ByteArray) (a2 : Int) (r : List ByteArray) (w : World) (hG : Glob w) (h : strings_SplitN.f a0 a1 a2 = some r) :
  Calls Tryz.prog 150 #[.string a0, .string a1, .int .i64 a2] w fun e w' => ∃ v0_ : Value, e = .returned (v0_) ∧ Kd.R Kd.string 9 w' w.heap.size (fun _ => True) v0_ r ∧ Below w.heap.size w w' := by
 unfold strings_SplitN.f at h
 by_cases hs : a0.size < 4294967281
 ·rw [if_pos hs] at h
  by_cases h1 : 1 ≤ a1.size
  ·rw [if_pos h1] at h
   by_cases h2 : 1 ≤ a2 ∧ a2 ≤ 1000
   ·rw [if_pos h2] at h
    have HR := Option.some.inj h
    clear h
    subst HR
    obtain ⟨m, hm⟩ := hG.max
    obtain ⟨n, rfl⟩ : ∃ n : Nat, a2 = n := ⟨a2.toNat, by omega⟩
    refine (Tryz.strings_SplitN a0 a1 n m w hs hm h1 (by omega) (by omega)).mono ?_
    rintro e w' ⟨rfl, rfl⟩
    have hl := Lib.splitB_length_le a1 0 (min n (a0.size + 1) - 1) a0
    have hle : (Lib.splitB a1 0 (min n (a0.size + 1) - 1) a0).length ≤ min n (a0.size + 1) := by omega
    refine ⟨_, rfl, Kd.R_of_own ⟨by simp [encs], .inr ⟨w.heap.size, min n (a0.size + 1), _, rfl, Nat.le_refl _, World.alloc_heap_new w _, ?_, ?_, ?_, ?_⟩⟩ (fun _ _ => trivial), (Below.refl _ w).alloc (Nat.le_refl _) _⟩
    ·exact hle
    ·unfold maxLen; omega
    ·rw [Lib.cellsOf_size hle, Nat.mul_one]
    simp [Lib.cellsOf, encs]
   rw [if_neg h2] at h; exact absurd h (by simp)
  rw [if_neg h1] at h; exact absurd h (by simp)
 rw [if_neg hs] at h; exact absurd h (by simp)
end Go.Proofs.YtihabmcaplnbcaaGreatDoor.Fn
