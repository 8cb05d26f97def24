/- A part of the proof of this sentence: OrderReads (35.5): the commands of any mail, as a member may send it, are as the document reads them; of at most 30 fields, names of at most 200, values and body of at most 3000 bytes. -/
import Derived.Test.YtihabmcaplnbcaaGreatDoorCOrderReads3
import Derived.RangeFuncNested
import Derived.RangeFuncBound
import Derived.RangeFuncCalls
import Derived.RangeFuncLeaves
import Derived.Shelf.Abstract
import Derived.Shelf.RegionOpen
import Derived.WalkKit
import Derived.OwnWalkIn
import Derived.TacticsInMore
import Derived.LoopNIn
import Derived.LoopIn
import Derived.Lib.IndexBytes
import Derived.Shelf.Strings.SlTrimAscii
namespace Go.Proofs.YtihabmcaplnbcaaGreatDoor.Fn
open Go.RowKit Go.Proofs.YtihabmcaplnbcaaGreatDoorW.PrintWords Go.Proofs.YtihabmcaplnbcaaGreatDoorW.PrintLast Go.Proofs.YtihabmcaplnbcaaGreatDoorW.PrintMore
attribute [local go_sem] max2_int min2_int max_two min_two max_three min_three max_four min_four
set_option linter.unusedVariables false
set_option linter.unusedSimpArgs false

mutual
def ew_word.j0 : Nat → List ByteArray → Bool → Option (ByteArray × Int)
 | 0, _, _ => none
 | k + 1, x6, x48 => if x48 = true then (some ((⟨#[]⟩ : ByteArray), 0)) else (if 0 < (x6.length : Int) then (if 1 < (x6.length : Int) then (if 2 < (x6.length : Int) then ((ew_octets.f k (rdOf ByteArray.empty x6 1) (rdOf ByteArray.empty x6 2)).bind fun bt200 => (if (wrap64 ((wrap64 ((wrap64 ((wrap64 ((wrap64 ((wrap64 (2 + ((rdOf ByteArray.empty x6 0).size : Int))) + 1)) + ((rdOf ByteArray.empty x6 1).size : Int))) + 1)) + ((rdOf ByteArray.empty x6 2).size : Int))) + 2)) > 75 then (ew_word.j1 k x6 (wrap64 ((wrap64 ((wrap64 ((wrap64 ((wrap64 ((wrap64 (2 + ((rdOf ByteArray.empty x6 0).size : Int))) + 1)) + ((rdOf ByteArray.empty x6 1).size : Int))) + 1)) + ((rdOf ByteArray.empty x6 2).size : Int))) + 2)) bt200.1 true) else (ew_word.j1 k x6 (wrap64 ((wrap64 ((wrap64 ((wrap64 ((wrap64 ((wrap64 (2 + ((rdOf ByteArray.empty x6 0).size : Int))) + 1)) + ((rdOf ByteArray.empty x6 1).size : Int))) + 1)) + ((rdOf ByteArray.empty x6 2).size : Int))) + 2)) bt200.1 (!bt200.2)))) else (none)) else (none)) else (none))
def ew_word.j1 : Nat → List ByteArray → Int → ByteArray → Bool → Option (ByteArray × Int)
 | 0, _, _, _, _ => none
 | k + 1, x6, x7, x8, x82 => if x82 = true then (some ((⟨#[]⟩ : ByteArray), 0)) else (if 0 < (x6.length : Int) then ((ew_signs.f (rdOf ByteArray.empty x6 0) x8).bind fun bt203 => (if bt203.2 = true then (some (bt203.1, x7)) else (some ((⟨#[]⟩ : ByteArray), 0)))) else (none))
end
def ew_word.f (k : Nat) (a0 : ByteArray) : Option (ByteArray × Int) := (strings_CutPrefix.f a0 (⟨#[61, 63]⟩ : ByteArray)).bind fun bt183 => (if bt183.2 = true then ((strings_SplitN.f bt183.1 (⟨#[63]⟩ : ByteArray) 4).bind fun t185 => (if (t185.length : Int) < 4 then (ew_word.j0 k t185 true) else (if 0 < (t185.length : Int) then (if (rdOf ByteArray.empty t185 0).toList = ([] : List UInt8) then (ew_word.j0 k t185 true) else ((ew_solid.f k (rdOf ByteArray.empty t185 0)).bind fun t190 => (if t190 = true then (if 2 < (t185.length : Int) then ((ew_solid.f k (rdOf ByteArray.empty t185 2)).bind fun t192 => (if t192 = true then (if 3 < (t185.length : Int) then ((strings_HasPrefix.f (rdOf ByteArray.empty t185 3) (⟨#[61]⟩ : ByteArray)).bind fun t194 => (ew_word.j0 k t185 (!t194))) else (none)) else (ew_word.j0 k t185 true))) else (none)) else (ew_word.j0 k t185 true)))) else (none)))) else (some ((⟨#[]⟩ : ByteArray), 0)))
def ew_word.T7 : Bool × List (List Nat × List Nat) := (true, [([], []), ([0], [0]), ([1], [1]), ([2], [2]), ([3], [3]), ([4], [4]), ([], []), ([6], [6]), ([7], [7]), ([8], [8]), ([5, 9], [5, 9]), ([10], [10]), ([], []), ([12], [12]), ([13], [13]), ([14], [14]), ([11, 15], [11, 15]), ([16], [16]), ([17, 0, 1, 2, 3, 4, 5, 6, 7, 8, 9, 10, 11, 12, 13, 14, 15, 16, 17], [17])])
def ew_word.B7 : List Nat := [0, 1, 3, 7, 15, 31, 0, 64, 192, 448, 1023, 2047, 0, 4096, 12288, 28672, 65535, 131071, 262143]
theorem ew_word.tab7 : rtab .any (opsOf Tryz.f105 7) = ew_word.T7 := by kernel_rfl
theorem ew_word.bits7 : waitsOk ew_word.T7.2 ew_word.B7 = true := by kernel_rfl
def ew_word.T8 : Bool × List (List Nat × List Nat) := (true, [([], []), ([0], [0]), ([1], [1]), ([], []), ([3], [3]), ([4], [4]), ([2, 5], [2, 5]), ([6], [6]), ([7], [7]), ([7], [7]), ([8, 6, 0, 1, 2, 3, 4, 5, 6, 7, 8], [8]), ([9, 10, 0, 1, 2, 3, 4, 5, 6, 7, 8, 9, 10], [9])])
def ew_word.B8 : List Nat := [0, 1, 3, 0, 8, 24, 63, 127, 255, 255, 511, 2047]
theorem ew_word.tab8 : rtab .any (opsOf Tryz.f105 8) = ew_word.T8 := by kernel_rfl
theorem ew_word.bits8 : waitsOk ew_word.T8.2 ew_word.B8 = true := by kernel_rfl
set_option maxHeartbeats 8000000 in
set_option maxRecDepth 100000 in
theorem ew_word.calls (k : Nat) (a0 : ByteArray) (r1 : ByteArray) (r2 : Int) (w : World) (hG : Glob w) (h : ew_word.f k a0 = some (r1, r2)) :
  Calls Tryz.prog 105 #[.string a0] w fun e w' => e = .returned (.tuple #[.string r1, .int .i64 r2]) ∧ Below w.heap.size w w' := by
 have HB := Aside0.mk (Below.refl w.heap.size w); have H : ((strings_CutPrefix.f a0 (⟨#[61, 63]⟩ : ByteArray)).bind fun bt183 => (if bt183.2 = true then ((strings_SplitN.f bt183.1 (⟨#[63]⟩ : ByteArray) 4).bind fun t185 => (if (t185.length : Int) < 4 then (ew_word.j0 k t185 true) else (if 0 < (t185.length : Int) then (if (rdOf ByteArray.empty t185 0).toList = ([] : List UInt8) then (ew_word.j0 k t185 true) else ((ew_solid.f k (rdOf ByteArray.empty t185 0)).bind fun t190 => (if t190 = true then (if 2 < (t185.length : Int) then ((ew_solid.f k (rdOf ByteArray.empty t185 2)).bind fun t192 => (if t192 = true then (if 3 < (t185.length : Int) then ((strings_HasPrefix.f (rdOf ByteArray.empty t185 3) (⟨#[61]⟩ : ByteArray)).bind fun t194 => (ew_word.j0 k t185 (!t194))) else (none)) else (ew_word.j0 k t185 true))) else (none)) else (ew_word.j0 k t185 true)))) else (none)))) else (some ((⟨#[]⟩ : ByteArray), 0)))) = some (r1, r2) := h; clear h; replace H := Option.bind_eq_some_iff.mp H; obtain ⟨⟨t183, t184⟩, A20, H⟩ := H; replace H : (if t184 = true then ((strings_SplitN.f t183 (⟨#[63]⟩ : ByteArray) 4).bind fun t185 => (if (t185.length : Int) < 4 then (ew_word.j0 k t185 true) else (if 0 < (t185.length : Int) then (if (rdOf ByteArray.empty t185 0).toList = ([] : List UInt8) then (ew_word.j0 k t185 true) else ((ew_solid.f k (rdOf ByteArray.empty t185 0)).bind fun t190 => (if t190 = true then (if 2 < (t185.length : Int) then ((ew_solid.f k (rdOf ByteArray.empty t185 2)).bind fun t192 => (if t192 = true then (if 3 < (t185.length : Int) then ((strings_HasPrefix.f (rdOf ByteArray.empty t185 3) (⟨#[61]⟩ : ByteArray)).bind fun t194 => (ew_word.j0 k t185 (!t194))) else (none)) else (ew_word.j0 k t185 true))) else (none)) else (ew_word.j0 k t185 true)))) else (none)))) else (some ((⟨#[]⟩ : ByteArray), 0))) = some (r1, r2) := H; have A2 := Aside0.mk A20; clear A20
 by_cases c3 : t184 = true
 ·subst c3; rw [if_pos rfl] at H; replace H := Option.bind_eq_some_iff.mp H; obtain ⟨t185, A40, H⟩ := H; have A4 := Aside0.mk A40; clear A40; have HC5 := Aside0.mk H; clear H
  go_enter Tryz.func105, Tryz.ntmps105
  go_upto_region 5 with (first | ((with_reducible refine gate_callee (f := 149) rfl ?_); refine goesL_ (some 12) rfl rfl Tryz.func149 (by kernel_rfl) rfl #[.string a0, .string (⟨#[61, 63]⟩ : ByteArray)] rfl am ?_; (with_reducible refine (strings_CutPrefix.calls a0 (⟨#[61, 63]⟩ : ByteArray) t183 true _ A2.out).mono ?_); rintro e w' ⟨rfl, ⟨nd, rfl⟩⟩; refine ⟨_, rfl, ?_⟩) | ((with_reducible refine gate_callee (f := 150) rfl ?_); refine goesL_ (some 18) rfl rfl Tryz.func150 (by kernel_rfl) rfl #[.string t183, .string (⟨#[63]⟩ : ByteArray), .int .i64 4] rfl am ?_; (with_reducible refine (strings_SplitN.calls (hG := by first | exact hG | exact Glob.below hG (by first | exact HB.out | (repeat (first | (with_reducible first | exact HB.out | apply below_alloc | apply pw_below_drewN | apply below_drew1) | exact HB.out))) | exact Glob.drawn hG (d0)) t183 (⟨#[63]⟩ : ByteArray) 4 t185 _ A4.out).mono ?_); rintro e w6 ⟨v186, rfl, ho0, hb⟩; refine ⟨_, rfl, ?_⟩; have n0_ := Aside0.mk (Kd.R_lower ho0 (below_size bw)); have n1_ := Aside0.mk (below_step bw hb); clear HB; have HO187 := n0_; have HB := n1_; clear n0_ n1_; (try clear hb); (try clear hb2); (try clear hk); (try clear hi); (try clear ho0)))
  (try simp only [Act.put, List.setIfInBounds_toArray, List.set_cons_zero, List.set_cons_succ])
  go_cut [48] (fun v48 wc => ∃ (kq : Nat) (x48_4 : Bool), v48 = .bool x48_4 ∧ Aside0 (ew_word.j0 kq t185 x48_4 = some (r1, r2)) ∧ Aside0 (kq ≤ k) ∧ Aside0 (Kd.R Kd.string 9 wc w.heap.size (fun _ => True) v186 t185) ∧ Aside0 (Below w.heap.size w wc))
  case first =>
   have H := HC5.out; clear HC5
   by_cases c7 : (t185.length : Int) < 4
   ·rw [if_pos c7] at H; have c7b0 := decide_eq_true c7; have c7b1 : decide (t185.length < 4) = true := decide_eq_true (by omega); clear c7
    (first | rw [c7b0] | (simp only [i64_w, i32_w]; rw [c7b0]) | skip)
    have H' := Aside0.mk H; clear H; obtain ⟨Ao8, co8, eo8⟩ := Kd.R_slice HO187.out; subst eo8
    go_wp2
    go_meet
    case rel => exact ⟨_, (true), cl, H', ⟨by first | omega | exact Nat.le_refl _⟩, ⟨ra HO187.out⟩, ⟨bw⟩⟩
   rw [if_neg c7] at H; have c7b0 := decide_eq_false c7; have c7b1 : decide (t185.length < 4) = false := decide_eq_false (by omega); clear c7
   (first | rw [c7b0] | (simp only [i64_w, i32_w]; rw [c7b0]) | skip)
   by_cases c9 : 0 < (t185.length : Int)
   ·rw [if_pos c9] at H; have c9b0 := decide_eq_true c9; have c9b1 : decide (0 < t185.length) = true := decide_eq_true (by omega); clear c9
    by_cases c10 : (rdOf ByteArray.empty t185 0).toList = ([] : List UInt8)
    ·rw [if_pos c10] at H; have c10b0 := beq_iff_eq.mpr c10; have c10b1 := bne_eq_false_iff_eq.mpr c10; clear c10; have H' := Aside0.mk H; clear H; obtain ⟨Ao11, co11, eo11⟩ := Kd.R_slice HO187.out; subst eo11; have p188 : 0 ≤ (0 : Int) := (by omega)
     have q188 : 0 < (t185.length : Int) := od; obtain ⟨ad188, e188, hx188_0⟩ := Kd.at_string (Kd.R_reads' HO187.out).2.2 0 p188 q188; cases e188; have qi188 : (0 < t185.length) = True := eq_true (by omega)
     (try rw [show ((0 : Int)).toNat = 0 from rfl] at hx188_0)
     (try rw [Addr.add_zero'] at hx188_0)
     replace p188 := eq_true p188; replace q188 := eq_true q188
     go_wp2
     go_meet
     case rel => exact ⟨_, (true), cl, H', ⟨by first | omega | exact Nat.le_refl _⟩, ⟨ra HO187.out⟩, ⟨bw⟩⟩
    rw [if_neg c10] at H; have c10b0 := beq_eq_false_iff_ne.mpr c10; have c10b1 := bne_iff_ne.mpr c10; replace H := Option.bind_eq_some_iff.mp H; obtain ⟨t190, A120, H⟩ := H; have A12 := Aside0.mk A120; clear A120
    by_cases c13 : t190 = true
    ·subst c13; rw [if_pos rfl] at H
     by_cases c14 : 2 < (t185.length : Int)
     ·rw [if_pos c14] at H; have c14b0 := decide_eq_true c14; have c14b1 : decide (2 < t185.length) = true := decide_eq_true (by omega); clear c14; replace H := Option.bind_eq_some_iff.mp H; obtain ⟨t192, A150, H⟩ := H; have A15 := Aside0.mk A150; clear A150
      by_cases c16 : t192 = true
      ·subst c16; rw [if_pos rfl] at H
       by_cases c17 : 3 < (t185.length : Int)
       ·rw [if_pos c17] at H; have c17b0 := decide_eq_true c17; have c17b1 : decide (3 < t185.length) = true := decide_eq_true (by omega); clear c17; replace H := Option.bind_eq_some_iff.mp H; obtain ⟨t194, A180, H⟩ := H; have A18 := Aside0.mk A180; clear A180; have H' := Aside0.mk H; clear H; obtain ⟨Ao19, co19, eo19⟩ := Kd.R_slice HO187.out; subst eo19; have p188 : 0 ≤ (0 : Int) := (by omega)
        have q188 : 0 < (t185.length : Int) := od; obtain ⟨ad188, e188, hx188_0⟩ := Kd.at_string (Kd.R_reads' HO187.out).2.2 0 p188 q188; cases e188; have qi188 : (0 < t185.length) = True := eq_true (by omega)
        (try rw [show ((0 : Int)).toNat = 0 from rfl] at hx188_0)
        (try rw [Addr.add_zero'] at hx188_0)
        replace p188 := eq_true p188; replace q188 := eq_true q188; have p189 : 0 ≤ (0 : Int) := (by omega)
        have q189 : 0 < (t185.length : Int) := od; obtain ⟨ad189, e189, hx189_0⟩ := Kd.at_string (Kd.R_reads' HO187.out).2.2 0 p189 q189; obtain rfl : ad188 = ad189 := (by injection e189)
        have qi189 : (0 < t185.length) = True := eq_true (by omega)
        (try rw [show ((0 : Int)).toNat = 0 from rfl] at hx189_0)
        (try rw [Addr.add_zero'] at hx189_0)
        replace p189 := eq_true p189; replace q189 := eq_true q189
        go_wp2_with (first | (go_at_call 151; (with_reducible refine (ew_solid.calls k (rdOf ByteArray.empty t185 0) true _ A12.out).mono ?_); rintro e w' ⟨rfl, ⟨nd, rfl⟩⟩; have p191 : 0 ≤ (2 : Int) := (by omega); have q191 : 2 < (t185.length : Int) := od; obtain ⟨ad191, e191, hx191_0⟩ := Kd.at_string (Kd.R_reads' HO187.out).2.2 2 p191 q191; obtain rfl : ad188 = ad191 := (by injection e191); (try simp only [show (2 : Int).toNat = 2 from rfl, Nat.reduceMul, Nat.reduceEqDiff, Go.Addr.add, ↓reduceIte] at hx191_0); have qi191 : (2 < t185.length) = True := eq_true (by omega); (try rw [show ((2 : Int)).toNat = 2 from rfl] at hx191_0); replace p191 := eq_true p191; replace q191 := eq_true q191) | (go_at_call 151; (with_reducible refine (ew_solid.calls k (rdOf ByteArray.empty t185 2) true _ A15.out).mono ?_); rintro e w' ⟨rfl, ⟨nd, rfl⟩⟩; have p193 : 0 ≤ (3 : Int) := (by omega); have q193 : 3 < (t185.length : Int) := od; obtain ⟨ad193, e193, hx193_0⟩ := Kd.at_string (Kd.R_reads' HO187.out).2.2 3 p193 q193; obtain rfl : ad188 = ad193 := (by injection e193); (try simp only [show (3 : Int).toNat = 3 from rfl, Nat.reduceMul, Nat.reduceEqDiff, Go.Addr.add, ↓reduceIte] at hx193_0); have qi193 : (3 < t185.length) = True := eq_true (by omega); (try rw [show ((3 : Int)).toNat = 3 from rfl] at hx193_0); replace p193 := eq_true p193; replace q193 := eq_true q193) | (go_at_call 56; (with_reducible refine (strings_HasPrefix.calls (rdOf ByteArray.empty t185 3) (⟨#[61]⟩ : ByteArray) t194 _ A18.out).mono ?_); rintro e w' ⟨rfl, ⟨nd, rfl⟩⟩))
        go_meet
        case rel => exact ⟨_, (!t194), cl, H', ⟨by first | omega | exact Nat.le_refl _⟩, ⟨ra HO187.out⟩, ⟨bw⟩⟩
       rw [if_neg c17] at H; exact absurd H (by simp)
      replace c16 := Bool.eq_false_iff.mpr c16; subst c16; rw [if_neg nft] at H; have H' := Aside0.mk H; clear H; obtain ⟨Ao20, co20, eo20⟩ := Kd.R_slice HO187.out; subst eo20; have p188 : 0 ≤ (0 : Int) := (by omega)
      have q188 : 0 < (t185.length : Int) := od; obtain ⟨ad188, e188, hx188_0⟩ := Kd.at_string (Kd.R_reads' HO187.out).2.2 0 p188 q188; cases e188; have qi188 : (0 < t185.length) = True := eq_true (by omega)
      (try rw [show ((0 : Int)).toNat = 0 from rfl] at hx188_0)
      (try rw [Addr.add_zero'] at hx188_0)
      replace p188 := eq_true p188; replace q188 := eq_true q188; have p189 : 0 ≤ (0 : Int) := (by omega)
      have q189 : 0 < (t185.length : Int) := od; obtain ⟨ad189, e189, hx189_0⟩ := Kd.at_string (Kd.R_reads' HO187.out).2.2 0 p189 q189; obtain rfl : ad188 = ad189 := (by injection e189)
      have qi189 : (0 < t185.length) = True := eq_true (by omega)
      (try rw [show ((0 : Int)).toNat = 0 from rfl] at hx189_0)
      (try rw [Addr.add_zero'] at hx189_0)
      replace p189 := eq_true p189; replace q189 := eq_true q189
      go_wp2_with (first | (go_at_call 151; (with_reducible refine (ew_solid.calls k (rdOf ByteArray.empty t185 0) true _ A12.out).mono ?_); rintro e w' ⟨rfl, ⟨nd, rfl⟩⟩; have p191 : 0 ≤ (2 : Int) := (by omega); have q191 : 2 < (t185.length : Int) := od; obtain ⟨ad191, e191, hx191_0⟩ := Kd.at_string (Kd.R_reads' HO187.out).2.2 2 p191 q191; obtain rfl : ad188 = ad191 := (by injection e191); (try simp only [show (2 : Int).toNat = 2 from rfl, Nat.reduceMul, Nat.reduceEqDiff, Go.Addr.add, ↓reduceIte] at hx191_0); have qi191 : (2 < t185.length) = True := eq_true (by omega); (try rw [show ((2 : Int)).toNat = 2 from rfl] at hx191_0); replace p191 := eq_true p191; replace q191 := eq_true q191) | (go_at_call 151; (with_reducible refine (ew_solid.calls k (rdOf ByteArray.empty t185 2) false _ A15.out).mono ?_); rintro e w' ⟨rfl, ⟨nd, rfl⟩⟩))
      go_meet
      case rel => exact ⟨_, (true), cl, H', ⟨by first | omega | exact Nat.le_refl _⟩, ⟨ra HO187.out⟩, ⟨bw⟩⟩
     rw [if_neg c14] at H; exact absurd H (by simp)
    replace c13 := Bool.eq_false_iff.mpr c13; subst c13; rw [if_neg nft] at H; have H' := Aside0.mk H; clear H; obtain ⟨Ao21, co21, eo21⟩ := Kd.R_slice HO187.out; subst eo21; have p188 : 0 ≤ (0 : Int) := (by omega)
    have q188 : 0 < (t185.length : Int) := od; obtain ⟨ad188, e188, hx188_0⟩ := Kd.at_string (Kd.R_reads' HO187.out).2.2 0 p188 q188; cases e188; have qi188 : (0 < t185.length) = True := eq_true (by omega)
    (try rw [show ((0 : Int)).toNat = 0 from rfl] at hx188_0)
    (try rw [Addr.add_zero'] at hx188_0)
    replace p188 := eq_true p188; replace q188 := eq_true q188; have p189 : 0 ≤ (0 : Int) := (by omega)
    have q189 : 0 < (t185.length : Int) := od; obtain ⟨ad189, e189, hx189_0⟩ := Kd.at_string (Kd.R_reads' HO187.out).2.2 0 p189 q189; obtain rfl : ad188 = ad189 := (by injection e189)
    have qi189 : (0 < t185.length) = True := eq_true (by omega)
    (try rw [show ((0 : Int)).toNat = 0 from rfl] at hx189_0)
    (try rw [Addr.add_zero'] at hx189_0)
    replace p189 := eq_true p189; replace q189 := eq_true q189
    go_wp2_with (first | (go_at_call 151; (with_reducible refine (ew_solid.calls k (rdOf ByteArray.empty t185 0) false _ A12.out).mono ?_); rintro e w' ⟨rfl, ⟨nd, rfl⟩⟩))
    go_meet
    case rel => exact ⟨_, (true), cl, H', ⟨by first | omega | exact Nat.le_refl _⟩, ⟨ra HO187.out⟩, ⟨bw⟩⟩
   rw [if_neg c9] at H; exact absurd H (by simp)
  case rest =>
   clear HC5
   try clear c1
   try clear p1
   try clear q1
   try clear hx1
   try clear qi1
   try clear p2
   try clear c3
   try clear c7
   try clear c7b0
   try clear c7b1
   try clear c9
   try clear c9b0
   try clear c9b1
   try clear c10
   try clear c10b0
   try clear c10b1
   try clear c13
   try clear c14
   try clear c14b0
   try clear c14b1
   try clear c15
   try clear c16
   try clear c17
   try clear c17b0
   try clear c17b1
   try clear p18
   try clear q18
   try clear hx18
   try clear qi18
   try clear p19
   try clear q19
   try clear hx19
   try clear qi19
   try clear hx188_0
   try clear hx189_0
   try clear hx191_0
   try clear hx193_0
   try clear p188
   try clear p189
   try clear p191
   try clear p193
   try clear q188
   try clear q189
   try clear q191
   try clear q193
   obtain ⟨kq, x48_4, rfl, HA, HJ4, HO_6, HB⟩ := hcut; cases kq with
   | zero => exact absurd HA.out (by simp [ew_word.j0])
   | succ kj4 =>
    have H := HA.out; clear HA; simp only [ew_word.j0] at H
    by_cases c22 : x48_4 = true
    ·subst c22; rw [if_pos rfl] at H; simp only [Option.some.injEq, Prod.mk.injEq] at H; obtain ⟨rfl, rfl⟩ := H
     go_wp2
     go_ret2
     exact ⟨ew, bw⟩
    replace c22 := Bool.eq_false_iff.mpr c22; subst c22; rw [if_neg nft] at H
    by_cases c23 : 0 < (t185.length : Int)
    ·rw [if_pos c23] at H; have c23b0 := decide_eq_true c23; have c23b1 : decide (0 < t185.length) = true := decide_eq_true (by omega); clear c23
     by_cases c24 : 1 < (t185.length : Int)
     ·rw [if_pos c24] at H; have c24b0 := decide_eq_true c24; have c24b1 : decide (1 < t185.length) = true := decide_eq_true (by omega); clear c24
      by_cases c25 : 2 < (t185.length : Int)
      ·rw [if_pos c25] at H; have c25b0 := decide_eq_true c25; have c25b1 : decide (2 < t185.length) = true := decide_eq_true (by omega); clear c25; replace H := Option.bind_eq_some_iff.mp H; obtain ⟨⟨t200, t201⟩, A260, H⟩ := H; replace H : (if (wrap64 ((wrap64 ((wrap64 ((wrap64 ((wrap64 ((wrap64 (2 + ((rdOf ByteArray.empty t185 0).size : Int))) + 1)) + ((rdOf ByteArray.empty t185 1).size : Int))) + 1)) + ((rdOf ByteArray.empty t185 2).size : Int))) + 2)) > 75 then (ew_word.j1 kj4 t185 (wrap64 ((wrap64 ((wrap64 ((wrap64 ((wrap64 ((wrap64 (2 + ((rdOf ByteArray.empty t185 0).size : Int))) + 1)) + ((rdOf ByteArray.empty t185 1).size : Int))) + 1)) + ((rdOf ByteArray.empty t185 2).size : Int))) + 2)) t200 true) else (ew_word.j1 kj4 t185 (wrap64 ((wrap64 ((wrap64 ((wrap64 ((wrap64 ((wrap64 (2 + ((rdOf ByteArray.empty t185 0).size : Int))) + 1)) + ((rdOf ByteArray.empty t185 1).size : Int))) + 1)) + ((rdOf ByteArray.empty t185 2).size : Int))) + 2)) t200 (!t201))) = some (r1, r2) := H; have A26 := Aside0.mk A260; clear A260; have HC27 := Aside0.mk H; clear H
       try go_wp2
       have n0_ := Aside0.mk (Kd.R_drew HO_6.out); have n1_ := Aside0.mk (below_drew1 HB.out); clear HO_6 HB; have HO_6 := n0_; have HB := n1_; clear n0_ n1_; obtain ⟨Ao29, co29, eo29⟩ := Kd.R_slice HO_6.out
       (first | subst eo29 | (injection eo29 with f1_ f2_ f3_; have f4_ := f1_.symm; have f5_ := f3_.symm; clear f1_ f2_ f3_; subst f4_; subst f5_))
       have p195 : 0 ≤ (0 : Int) := (by omega)
       have q195 : 0 < (t185.length : Int) := od; obtain ⟨ad195, e195, hx195_0⟩ := Kd.at_string (Kd.R_reads' HO_6.out).2.2 0 p195 q195; cases e195; have qi195 : (0 < t185.length) = True := eq_true (by omega)
       (try rw [show ((0 : Int)).toNat = 0 from rfl] at hx195_0)
       (try rw [Addr.add_zero'] at hx195_0)
       replace p195 := eq_true p195; replace q195 := eq_true q195; have p196 : 0 ≤ (1 : Int) := (by omega)
       have q196 : 1 < (t185.length : Int) := od; obtain ⟨ad196, e196, hx196_0⟩ := Kd.at_string (Kd.R_reads' HO_6.out).2.2 1 p196 q196; obtain rfl : ad195 = ad196 := (by injection e196)
       (try simp only [show (1 : Int).toNat = 1 from rfl, Nat.reduceMul, Nat.reduceEqDiff, Go.Addr.add, ↓reduceIte] at hx196_0)
       have qi196 : (1 < t185.length) = True := eq_true (by omega)
       (try rw [show ((1 : Int)).toNat = 1 from rfl] at hx196_0)
       replace p196 := eq_true p196; replace q196 := eq_true q196; have p197 : 0 ≤ (2 : Int) := (by omega)
       have q197 : 2 < (t185.length : Int) := od; obtain ⟨ad197, e197, hx197_0⟩ := Kd.at_string (Kd.R_reads' HO_6.out).2.2 2 p197 q197; obtain rfl : ad195 = ad197 := (by injection e197)
       (try simp only [show (2 : Int).toNat = 2 from rfl, Nat.reduceMul, Nat.reduceEqDiff, Go.Addr.add, ↓reduceIte] at hx197_0)
       have qi197 : (2 < t185.length) = True := eq_true (by omega)
       (try rw [show ((2 : Int)).toNat = 2 from rfl] at hx197_0)
       replace p197 := eq_true p197; replace q197 := eq_true q197; refine start_ (n := 19) (S := fun w' => w'.cell? ad195 = some (.string (rdOf ByteArray.empty t185 0)) ∧ w'.cell? ⟨ad195.block, ad195.off + 1, none⟩ = some (.string (rdOf ByteArray.empty t185 1)) ∧ w'.cell? ⟨ad195.block, ad195.off + 2, none⟩ = some (.string (rdOf ByteArray.empty t185 2))) (ds := []) #[false, false, false, false, false, false, false, false, false, false, false, false, false, false, false, false, false, false, false] (by kernel_rfl) rfl rfl ⟨hx195_0, hx196_0, hx197_0⟩ (fun hHeld => ?_); refine with_tabW ew_word.tab7 ew_word.bits7 (fun HT_ HW_ => ?_)
       generalize wc.drew = w28 at HO_6 HB hx195_0 hx196_0 hx197_0 hHeld ⊢
       refine pure_ (i := 0) (N := some 49) (v := ?_) (a' := ?_) (bitsL 19 1) rfl rfl (any_of HT_.out (by kernel_rfl)) (fun _ _ _ h => h) (Or.inl ⟨by rfl, ?_⟩) ?_ ?_; rotate_left
       ·intro w'; go_simp; with_reducible rfl
       rotate_left
       ·simp only [Act.put, List.setIfInBounds_toArray, List.set_cons_zero, List.set_cons_succ, i64_w, i32_w]; rfl
       refine pure_ (i := 1) (N := some 50) (v := ?_) (a' := ?_) (bitsL 19 3) rfl rfl (any_of HT_.out (by kernel_rfl)) (fun _ _ _ h => h) (Or.inl ⟨by rfl, ?_⟩) ?_ ?_; rotate_left
       ·intro w'; go_simp; with_reducible rfl
       rotate_left
       ·simp only [Act.put, List.setIfInBounds_toArray, List.set_cons_zero, List.set_cons_succ, i64_w, i32_w]; rfl
       refine pure_ (i := 6) (N := some 55) (v := ?_) (a' := ?_) (bitsL 19 67) rfl rfl (any_of HT_.out (by kernel_rfl)) (fun _ _ _ h => h) (Or.inl ⟨by rfl, ?_⟩) ?_ ?_; rotate_left
       ·intro w'; go_simp; with_reducible rfl
       rotate_left
       ·simp only [Act.put, List.setIfInBounds_toArray, List.set_cons_zero, List.set_cons_succ, i64_w, i32_w]; rfl
       refine pure_ (i := 7) (N := some 56) (v := ?_) (a' := ?_) (bitsL 19 195) rfl rfl (any_of HT_.out (by kernel_rfl)) (fun _ _ _ h => h) (Or.inl ⟨by rfl, ?_⟩) ?_ ?_; rotate_left
       ·intro w'; go_simp; with_reducible rfl
       rotate_left
       ·simp only [Act.put, List.setIfInBounds_toArray, List.set_cons_zero, List.set_cons_succ, i64_w, i32_w]; rfl
       refine pure_ (i := 12) (N := some 61) (v := ?_) (a' := ?_) (bitsL 19 4291) rfl rfl (any_of HT_.out (by kernel_rfl)) (fun _ _ _ h => h) (Or.inl ⟨by rfl, ?_⟩) ?_ ?_; rotate_left
       ·intro w'; go_simp; with_reducible rfl
       rotate_left
       ·simp only [Act.put, List.setIfInBounds_toArray, List.set_cons_zero, List.set_cons_succ, i64_w, i32_w]; rfl
       refine pure_ (i := 13) (N := some 62) (v := ?_) (a' := ?_) (bitsL 19 12483) rfl rfl (any_of HT_.out (by kernel_rfl)) (fun _ _ _ h => h) (Or.inl ⟨by rfl, ?_⟩) ?_ ?_; rotate_left
       ·intro w'; go_simp; with_reducible rfl
       rotate_left
       ·simp only [Act.put, List.setIfInBounds_toArray, List.set_cons_zero, List.set_cons_succ, i64_w, i32_w]; rfl
       refine take_ (i := 2) (N := some 51) (v := ?_) (a' := ?_) (bitsL 19 12487) rfl rfl (take_ofW HT_.out HW_.out (by kernel_rfl)) (fun _ _ _ h => h) (Or.inl ⟨by rfl, ?_⟩) hHeld ?_ ?_; rotate_left
       ·rintro w' ⟨s0, s1, s2⟩; go_simp; with_reducible rfl
       rotate_left
       ·simp only [Act.put, List.setIfInBounds_toArray, List.set_cons_zero, List.set_cons_succ, i64_w, i32_w]; rfl
       refine pure_ (i := 3) (N := some 52) (v := ?_) (a' := ?_) (bitsL 19 12495) rfl rfl (any_of HT_.out (by kernel_rfl)) (fun _ _ _ h => h) (Or.inl ⟨by rfl, ?_⟩) ?_ ?_; rotate_left
       ·intro w'; go_simp; with_reducible rfl
       rotate_left
       ·simp only [Act.put, List.setIfInBounds_toArray, List.set_cons_zero, List.set_cons_succ, i64_w, i32_w]; rfl
       refine pure_ (i := 4) (N := some 53) (v := ?_) (a' := ?_) (bitsL 19 12511) rfl rfl (any_of HT_.out (by kernel_rfl)) (fun _ _ _ h => h) (Or.inl ⟨by rfl, ?_⟩) ?_ ?_; rotate_left
       ·intro w'; go_simp; with_reducible rfl
       rotate_left
       ·simp only [Act.put, List.setIfInBounds_toArray, List.set_cons_zero, List.set_cons_succ, i64_w, i32_w]; rfl
       refine pure_ (i := 5) (N := some 54) (v := ?_) (a' := ?_) (bitsL 19 12543) rfl rfl (any_of HT_.out (by kernel_rfl)) (fun _ _ _ h => h) (Or.inl ⟨by rfl, ?_⟩) ?_ ?_; rotate_left
       ·intro w'; go_simp; with_reducible rfl
       rotate_left
       ·simp only [Act.put, List.setIfInBounds_toArray, List.set_cons_zero, List.set_cons_succ, i64_w, i32_w]; rfl
       refine take_ (i := 8) (N := some 57) (v := ?_) (a' := ?_) (bitsL 19 12799) rfl rfl (take_ofW HT_.out HW_.out (by kernel_rfl)) (fun _ _ _ h => h) (Or.inl ⟨by rfl, ?_⟩) hHeld ?_ ?_; rotate_left
       ·rintro w' ⟨s0, s1, s2⟩; go_simp; with_reducible rfl
       rotate_left
       ·simp only [Act.put, List.setIfInBounds_toArray, List.set_cons_zero, List.set_cons_succ, i64_w, i32_w]; rfl
       refine pure_ (i := 9) (N := some 58) (v := ?_) (a' := ?_) (bitsL 19 13311) rfl rfl (any_of HT_.out (by kernel_rfl)) (fun _ _ _ h => h) (Or.inl ⟨by rfl, ?_⟩) ?_ ?_; rotate_left
       ·intro w'; go_simp; with_reducible rfl
       rotate_left
       ·simp only [Act.put, List.setIfInBounds_toArray, List.set_cons_zero, List.set_cons_succ, i64_w, i32_w]; rfl
       refine pure_ (i := 10) (N := some 59) (v := ?_) (a' := ?_) (bitsL 19 14335) rfl rfl (any_of HT_.out (by kernel_rfl)) (fun _ _ _ h => h) (Or.inl ⟨by rfl, ?_⟩) ?_ ?_; rotate_left
       ·intro w'; go_simp; with_reducible rfl
       rotate_left
       ·simp only [Act.put, List.setIfInBounds_toArray, List.set_cons_zero, List.set_cons_succ, i64_w, i32_w]; rfl
       refine pure_ (i := 11) (N := some 60) (v := ?_) (a' := ?_) (bitsL 19 16383) rfl rfl (any_of HT_.out (by kernel_rfl)) (fun _ _ _ h => h) (Or.inl ⟨by rfl, ?_⟩) ?_ ?_; rotate_left
       ·intro w'; go_simp; with_reducible rfl
       rotate_left
       ·simp only [Act.put, List.setIfInBounds_toArray, List.set_cons_zero, List.set_cons_succ, i64_w, i32_w]; rfl
       refine take_ (i := 14) (N := some 63) (v := ?_) (a' := ?_) (bitsL 19 32767) rfl rfl (take_ofW HT_.out HW_.out (by kernel_rfl)) (fun _ _ _ h => h) (Or.inl ⟨by rfl, ?_⟩) hHeld ?_ ?_; rotate_left
       ·rintro w' ⟨s0, s1, s2⟩; go_simp; with_reducible rfl
       rotate_left
       ·simp only [Act.put, List.setIfInBounds_toArray, List.set_cons_zero, List.set_cons_succ, i64_w, i32_w]; rfl
       refine pure_ (i := 15) (N := some 64) (v := ?_) (a' := ?_) (bitsL 19 65535) rfl rfl (any_of HT_.out (by kernel_rfl)) (fun _ _ _ h => h) (Or.inl ⟨by rfl, ?_⟩) ?_ ?_; rotate_left
       ·intro w'; go_simp; with_reducible rfl
       rotate_left
       ·simp only [Act.put, List.setIfInBounds_toArray, List.set_cons_zero, List.set_cons_succ, i64_w, i32_w]; rfl
       refine pure_ (i := 16) (N := some 65) (v := ?_) (a' := ?_) (bitsL 19 131071) rfl rfl (any_of HT_.out (by kernel_rfl)) (fun _ _ _ h => h) (Or.inl ⟨by rfl, ?_⟩) ?_ ?_; rotate_left
       ·intro w'; go_simp; with_reducible rfl
       rotate_left
       ·simp only [Act.put, List.setIfInBounds_toArray, List.set_cons_zero, List.set_cons_succ, i64_w, i32_w]; rfl
       refine pure_ (i := 17) (N := some 66) (v := ?_) (a' := ?_) (bitsL 19 262143) rfl rfl (any_of HT_.out (by kernel_rfl)) (fun _ _ _ h => h) (Or.inl ⟨by rfl, ?_⟩) ?_ ?_; rotate_left
       ·intro w'; go_simp; with_reducible rfl
       rotate_left
       ·simp only [Act.put, List.setIfInBounds_toArray, List.set_cons_zero, List.set_cons_succ, i64_w, i32_w]; rfl
       refine pure_ (i := 18) (N := some 7) (v := ?_) (a' := ?_) (bitsL 19 524287) rfl rfl (any_of HT_.out (by kernel_rfl)) (fun _ _ _ h => h) (Or.inl ⟨by rfl, ?_⟩) ?_ ?_; rotate_left
       ·intro w'; go_simp; with_reducible rfl
       rotate_left
       ·simp only [Act.put, List.setIfInBounds_toArray, List.set_cons_zero, List.set_cons_succ, i64_w, i32_w]; rfl
       refine done_ (done_of HT_.out (by kernel_rfl)) ?_
       try go_wp2
       have n0_ := Aside0.mk (Kd.R_drew HO_6.out); have n1_ := Aside0.mk (below_drew1 HB.out); clear HO_6 HB; have HO_6 := n0_; have HB := n1_; clear n0_ n1_; have p198 : 0 ≤ (1 : Int) := (by omega)
       have q198 : 1 < (t185.length : Int) := od; obtain ⟨ad198, e198, hx198_0⟩ := Kd.at_string (Kd.R_reads' HO_6.out).2.2 1 p198 q198; obtain rfl : ad195 = ad198 := (by injection e198)
       (try simp only [show (1 : Int).toNat = 1 from rfl, Nat.reduceMul, Nat.reduceEqDiff, Go.Addr.add, ↓reduceIte] at hx198_0)
       have qi198 : (1 < t185.length) = True := eq_true (by omega)
       (try rw [show ((1 : Int)).toNat = 1 from rfl] at hx198_0)
       replace p198 := eq_true p198; replace q198 := eq_true q198; have p199 : 0 ≤ (2 : Int) := (by omega)
       have q199 : 2 < (t185.length : Int) := od; obtain ⟨ad199, e199, hx199_0⟩ := Kd.at_string (Kd.R_reads' HO_6.out).2.2 2 p199 q199; obtain rfl : ad195 = ad199 := (by injection e199)
       (try simp only [show (2 : Int).toNat = 2 from rfl, Nat.reduceMul, Nat.reduceEqDiff, Go.Addr.add, ↓reduceIte] at hx199_0)
       have qi199 : (2 < t185.length) = True := eq_true (by omega)
       (try rw [show ((2 : Int)).toNat = 2 from rfl] at hx199_0)
       replace p199 := eq_true p199; replace q199 := eq_true q199; refine start_ (n := 12) (S := fun w' => w'.cell? ⟨ad195.block, ad195.off + 1, none⟩ = some (.string (rdOf ByteArray.empty t185 1)) ∧ w'.cell? ⟨ad195.block, ad195.off + 2, none⟩ = some (.string (rdOf ByteArray.empty t185 2))) (ds := []) #[false, false, false, false, false, false, false, false, false, false, false, false] (by kernel_rfl) rfl rfl ⟨hx198_0, hx199_0⟩ (fun hHeld => ?_); refine with_tabW ew_word.tab8 ew_word.bits8 (fun HT_ HW_ => ?_)
       generalize w28.drew = w30 at HO_6 HB hx198_0 hx199_0 hHeld ⊢
       refine pure_ (i := 0) (N := some 68) (v := ?_) (a' := ?_) (bitsL 12 1) rfl rfl (any_of HT_.out (by kernel_rfl)) (fun _ _ _ h => h) (Or.inl ⟨by rfl, ?_⟩) ?_ ?_; rotate_left
       ·intro w'; go_simp; with_reducible rfl
       rotate_left
       ·simp only [Act.put, List.setIfInBounds_toArray, List.set_cons_zero, List.set_cons_succ, i64_w, i32_w]; rfl
       refine pure_ (i := 1) (N := some 69) (v := ?_) (a' := ?_) (bitsL 12 3) rfl rfl (any_of HT_.out (by kernel_rfl)) (fun _ _ _ h => h) (Or.inl ⟨by rfl, ?_⟩) ?_ ?_; rotate_left
       ·intro w'; go_simp; with_reducible rfl
       rotate_left
       ·simp only [Act.put, List.setIfInBounds_toArray, List.set_cons_zero, List.set_cons_succ, i64_w, i32_w]; rfl
       refine pure_ (i := 3) (N := some 71) (v := ?_) (a' := ?_) (bitsL 12 11) rfl rfl (any_of HT_.out (by kernel_rfl)) (fun _ _ _ h => h) (Or.inl ⟨by rfl, ?_⟩) ?_ ?_; rotate_left
       ·intro w'; go_simp; with_reducible rfl
       rotate_left
       ·simp only [Act.put, List.setIfInBounds_toArray, List.set_cons_zero, List.set_cons_succ, i64_w, i32_w]; rfl
       refine pure_ (i := 4) (N := some 72) (v := ?_) (a' := ?_) (bitsL 12 27) rfl rfl (any_of HT_.out (by kernel_rfl)) (fun _ _ _ h => h) (Or.inl ⟨by rfl, ?_⟩) ?_ ?_; rotate_left
       ·intro w'; go_simp; with_reducible rfl
       rotate_left
       ·simp only [Act.put, List.setIfInBounds_toArray, List.set_cons_zero, List.set_cons_succ, i64_w, i32_w]; rfl
       refine take_ (i := 2) (N := some 70) (v := ?_) (a' := ?_) (bitsL 12 31) rfl rfl (take_ofW HT_.out HW_.out (by kernel_rfl)) (fun _ _ _ h => h) (Or.inl ⟨by rfl, ?_⟩) hHeld ?_ ?_; rotate_left
       ·rintro w' ⟨s0, s1⟩; go_simp; with_reducible rfl
       rotate_left
       ·simp only [Act.put, List.setIfInBounds_toArray, List.set_cons_zero, List.set_cons_succ, i64_w, i32_w]; rfl
       refine take_ (i := 5) (N := some 73) (v := ?_) (a' := ?_) (bitsL 12 63) rfl rfl (take_ofW HT_.out HW_.out (by kernel_rfl)) (fun _ _ _ h => h) (Or.inl ⟨by rfl, ?_⟩) hHeld ?_ ?_; rotate_left
       ·rintro w' ⟨s0, s1⟩; go_simp; with_reducible rfl
       rotate_left
       ·simp only [Act.put, List.setIfInBounds_toArray, List.set_cons_zero, List.set_cons_succ, i64_w, i32_w]; rfl
       refine one_ (i := 6) (N := some 74) (bitsL 12 127) rfl rfl (one_of HT_.out (by kernel_rfl)) (by decide) (fun K hK => ?_); refine goes_ Tryz.func152 (by kernel_rfl) rfl #[.string (rdOf ByteArray.empty t185 1), .string (rdOf ByteArray.empty t185 2)] (by rfl) rfl rfl am ?_; with_reducible refine (ew_octets.calls kj4 (rdOf ByteArray.empty t185 1) (rdOf ByteArray.empty t185 2) t200 t201 _ A26.out).mono ?_; rintro e w31 ⟨rfl, hb⟩; have HS0_ := (hb.cell (World.block_lt_of_cell? _ _ (hHeld.1))).trans (hHeld.1); have HS1_ := (hb.cell (World.block_lt_of_cell? _ _ (hHeld.2))).trans (hHeld.2); refine ⟨_, rfl, ?_⟩; have n0_ := Aside0.mk (Kd.R_below (ra HO_6.out) hb); have n1_ := Aside0.mk (below_step bw hb); clear HO_6 HB; have HO_6 := n0_; have HB := n1_; clear n0_ n1_
       (try clear hb)
       (try clear hb2)
       (try clear hk)
       (try clear hi)
       refine hK.out _ _ ⟨HS0_, HS1_⟩ (fun hHeld => ?_); clear hK K; refine norm_ (a' := ?_) ?_ ?_; rotate_left
       ·show Act.put _ (some 74) _ = _
        simp only [Act.put, List.setIfInBounds_toArray, List.set_cons_zero, List.set_cons_succ, i64_w, i32_w]; rfl
       refine pure_ (i := 7) (N := some 67) (v := ?_) (a' := ?_) (bitsL 12 255) rfl rfl (any_of HT_.out (by kernel_rfl)) (fun _ _ _ h => h) (Or.inl ⟨by rfl, ?_⟩) ?_ ?_; rotate_left
       ·intro w'; go_simp; with_reducible rfl
       rotate_left
       ·simp only [Act.put, List.setIfInBounds_toArray, List.set_cons_zero, List.set_cons_succ, i64_w, i32_w]; rfl
       refine pure_ (i := 8) (N := some 75) (v := ?_) (a' := ?_) (bitsL 12 511) rfl rfl (any_of HT_.out (by kernel_rfl)) (fun _ _ _ h => h) (Or.inl ⟨by rfl, ?_⟩) ?_ ?_; rotate_left
       ·intro w'; go_simp; with_reducible rfl
       rotate_left
       ·simp only [Act.put, List.setIfInBounds_toArray, List.set_cons_zero, List.set_cons_succ, i64_w, i32_w]; rfl
       refine pure_ (i := 9) (N := some 76) (v := ?_) (a' := ?_) (bitsL 12 1023) rfl rfl (any_of HT_.out (by kernel_rfl)) (fun _ _ _ h => h) (Or.inl ⟨by rfl, ?_⟩) ?_ ?_; rotate_left
       ·intro w'; go_simp; with_reducible rfl
       rotate_left
       ·simp only [Act.put, List.setIfInBounds_toArray, List.set_cons_zero, List.set_cons_succ, i64_w, i32_w]; rfl
       refine pure_ (i := 10) (N := some 8) (v := ?_) (a' := ?_) (bitsL 12 2047) rfl rfl (any_of HT_.out (by kernel_rfl)) (fun _ _ _ h => h) (Or.inl ⟨by rfl, ?_⟩) ?_ ?_; rotate_left
       ·intro w'; go_simp; with_reducible rfl
       rotate_left
       ·simp only [Act.put, List.setIfInBounds_toArray, List.set_cons_zero, List.set_cons_succ, i64_w, i32_w]; rfl
       refine pure_ (i := 11) (N := some 5) (v := ?_) (a' := ?_) (bitsL 12 4095) rfl rfl (any_of HT_.out (by kernel_rfl)) (fun _ _ _ h => h) (Or.inl ⟨by rfl, ?_⟩) ?_ ?_; rotate_left
       ·intro w'; go_simp; with_reducible rfl
       rotate_left
       ·simp only [Act.put, List.setIfInBounds_toArray, List.set_cons_zero, List.set_cons_succ, i64_w, i32_w]; rfl
       refine done_ (done_of HT_.out (by kernel_rfl)) ?_
       go_upto_region 9 with (fail)
       go_cut [82] (fun v82 wc => ∃ (kq : Nat) (x82_26 : Bool), v82 = .bool x82_26 ∧ Aside0 (ew_word.j1 kq t185 (wrap64 ((wrap64 ((wrap64 ((wrap64 ((wrap64 ((wrap64 (2 + ((rdOf ByteArray.empty t185 0).size : Int))) + 1)) + ((rdOf ByteArray.empty t185 1).size : Int))) + 1)) + ((rdOf ByteArray.empty t185 2).size : Int))) + 2)) t200 x82_26 = some (r1, r2)) ∧ Aside0 (kq ≤ kj4) ∧ Aside0 (Kd.R Kd.string 9 wc w.heap.size (fun _ => True) (.slice (some ad195) t185.length co29) t185) ∧ Aside0 (Below w.heap.size w wc))
       case first =>
        have H := HC27.out; clear HC27
        by_cases c32 : (wrap64 ((wrap64 ((wrap64 ((wrap64 ((wrap64 ((wrap64 (2 + ((rdOf ByteArray.empty t185 0).size : Int))) + 1)) + ((rdOf ByteArray.empty t185 1).size : Int))) + 1)) + ((rdOf ByteArray.empty t185 2).size : Int))) + 2)) > 75
        ·rw [if_pos c32] at H; have c32b0 : decide (75 < (wrap64 ((wrap64 ((wrap64 ((wrap64 ((wrap64 ((wrap64 (2 + ((rdOf ByteArray.empty t185 0).size : Int))) + 1)) + ((rdOf ByteArray.empty t185 1).size : Int))) + 1)) + ((rdOf ByteArray.empty t185 2).size : Int))) + 2))) = true := decide_eq_true c32; clear c32
         (first | rw [c32b0] | (simp only [i64_w, i32_w]; rw [c32b0]) | skip)
         have H' := Aside0.mk H; clear H
         go_wp2
         go_meet
         case rel => exact ⟨_, (true), cl, H', ⟨by have := HJ4.out; first | omega | exact Nat.le_refl _⟩, ⟨ra HO_6.out⟩, ⟨bw⟩⟩
        rw [if_neg c32] at H; have c32b0 : decide (75 < (wrap64 ((wrap64 ((wrap64 ((wrap64 ((wrap64 ((wrap64 (2 + ((rdOf ByteArray.empty t185 0).size : Int))) + 1)) + ((rdOf ByteArray.empty t185 1).size : Int))) + 1)) + ((rdOf ByteArray.empty t185 2).size : Int))) + 2))) = false := decide_eq_false c32; clear c32
        (first | rw [c32b0] | (simp only [i64_w, i32_w]; rw [c32b0]) | skip)
        have H' := Aside0.mk H; clear H
        go_wp2
        go_meet
        case rel => exact ⟨_, (!t201), cl, H', ⟨by have := HJ4.out; first | omega | exact Nat.le_refl _⟩, ⟨ra HO_6.out⟩, ⟨bw⟩⟩
       case rest =>
        clear HC27
        try clear c1
        try clear p1
        try clear q1
        try clear hx1
        try clear qi1
        try clear c2
        try clear p2
        try clear c3
        try clear p6
        try clear c7
        try clear c7b0
        try clear c7b1
        try clear c9
        try clear c9b0
        try clear c9b1
        try clear c10
        try clear c10b0
        try clear c10b1
        try clear c13
        try clear c14
        try clear c14b0
        try clear c14b1
        try clear c15
        try clear c16
        try clear c17
        try clear c17b0
        try clear c17b1
        try clear p18
        try clear q18
        try clear hx18
        try clear qi18
        try clear p19
        try clear q19
        try clear hx19
        try clear qi19
        try clear c22
        try clear c23
        try clear c23b0
        try clear c23b1
        try clear c24
        try clear c24b0
        try clear c24b1
        try clear c25
        try clear c25b0
        try clear c25b1
        try clear c32
        try clear c32b0
        try clear hx188_0
        try clear hx189_0
        try clear hx191_0
        try clear hx193_0
        try clear hx195_0
        try clear hx196_0
        try clear hx197_0
        try clear hx198_0
        try clear hx199_0
        try clear p1
        try clear p18
        try clear p188
        try clear p189
        try clear p19
        try clear p191
        try clear p193
        try clear p195
        try clear p196
        try clear p197
        try clear p198
        try clear p199
        try clear p2
        try clear q1
        try clear q18
        try clear q188
        try clear q189
        try clear q19
        try clear q191
        try clear q193
        try clear q195
        try clear q196
        try clear q197
        try clear q198
        try clear q199
        obtain ⟨kq, x82_26, rfl, HA, HJ26, HO_6, HB⟩ := hcut; cases kq with
        | zero => exact absurd HA.out (by simp [ew_word.j1])
        | succ kj26 =>
         have H := HA.out; clear HA; simp only [ew_word.j1] at H
         by_cases c33 : x82_26 = true
         ·subst c33; rw [if_pos rfl] at H; simp only [Option.some.injEq, Prod.mk.injEq] at H; obtain ⟨rfl, rfl⟩ := H
          go_wp2
          go_ret2
          exact ⟨ew, bw⟩
         replace c33 := Bool.eq_false_iff.mpr c33; subst c33; rw [if_neg nft] at H
         by_cases c34 : 0 < (t185.length : Int)
         ·rw [if_pos c34] at H; have c34b0 := decide_eq_true c34; have c34b1 : decide (0 < t185.length) = true := decide_eq_true (by omega); clear c34; replace H := Option.bind_eq_some_iff.mp H; obtain ⟨⟨t203, t204⟩, A350, H⟩ := H; replace H : (if t204 = true then (some (t203, (wrap64 ((wrap64 ((wrap64 ((wrap64 ((wrap64 ((wrap64 (2 + ((rdOf ByteArray.empty t185 0).size : Int))) + 1)) + ((rdOf ByteArray.empty t185 1).size : Int))) + 1)) + ((rdOf ByteArray.empty t185 2).size : Int))) + 2)))) else (some ((⟨#[]⟩ : ByteArray), 0))) = some (r1, r2) := H; have A35 := Aside0.mk A350; clear A350
          by_cases c36 : t204 = true
          ·subst c36; rw [if_pos rfl] at H; simp only [Option.some.injEq, Prod.mk.injEq] at H; obtain ⟨rfl, rfl⟩ := H; have p202 : 0 ≤ (0 : Int) := (by omega)
           have q202 : 0 < (t185.length : Int) := od; obtain ⟨ad202, e202, hx202_0⟩ := Kd.at_string (Kd.R_reads' HO_6.out).2.2 0 p202 q202; obtain rfl : ad195 = ad202 := (by injection e202)
           have qi202 : (0 < t185.length) = True := eq_true (by omega)
           (try rw [show ((0 : Int)).toNat = 0 from rfl] at hx202_0)
           (try rw [Addr.add_zero'] at hx202_0)
           replace p202 := eq_true p202; replace q202 := eq_true q202
           go_wp2_with (first | ((with_reducible refine gate_callee (f := 153) rfl ?_); refine goesL_ (some 88) rfl rfl Tryz.func153 (by kernel_rfl) rfl #[.string (rdOf ByteArray.empty t185 0), .string t200] rfl am ?_; (with_reducible refine (ew_signs.calls (hG := by first | exact hG | exact Glob.below hG (by first | exact HB.out | (repeat (first | (with_reducible first | exact HB.out | apply below_alloc | apply pw_below_drewN | apply below_drew1) | exact HB.out))) | exact Glob.drawn hG (d0)) (rdOf ByteArray.empty t185 0) t200 t203 true _ A35.out).mono ?_); rintro e w37 ⟨rfl, hb⟩; refine ⟨_, rfl, ?_⟩; have n0_ := Aside0.mk (Kd.R_below (ra HO_6.out) hb); have n1_ := Aside0.mk (below_step bw hb); clear HO_6; clear HB; have HO_6 := n0_; have HB := n1_; clear n0_ n1_; (try clear hb); (try clear hb2); (try clear hk); (try clear hi)))
           go_ret2
           exact ⟨ew, bw⟩
          replace c36 := Bool.eq_false_iff.mpr c36; subst c36; rw [if_neg nft] at H; simp only [Option.some.injEq, Prod.mk.injEq] at H; obtain ⟨rfl, rfl⟩ := H; have p202 : 0 ≤ (0 : Int) := (by omega)
          have q202 : 0 < (t185.length : Int) := od; obtain ⟨ad202, e202, hx202_0⟩ := Kd.at_string (Kd.R_reads' HO_6.out).2.2 0 p202 q202; obtain rfl : ad195 = ad202 := (by injection e202)
          have qi202 : (0 < t185.length) = True := eq_true (by omega)
          (try rw [show ((0 : Int)).toNat = 0 from rfl] at hx202_0)
          (try rw [Addr.add_zero'] at hx202_0)
          replace p202 := eq_true p202; replace q202 := eq_true q202
          go_wp2_with (first | ((with_reducible refine gate_callee (f := 153) rfl ?_); refine goesL_ (some 88) rfl rfl Tryz.func153 (by kernel_rfl) rfl #[.string (rdOf ByteArray.empty t185 0), .string t200] rfl am ?_; (with_reducible refine (ew_signs.calls (hG := by first | exact hG | exact Glob.below hG (by first | exact HB.out | (repeat (first | (with_reducible first | exact HB.out | apply below_alloc | apply pw_below_drewN | apply below_drew1) | exact HB.out))) | exact Glob.drawn hG (d0)) (rdOf ByteArray.empty t185 0) t200 t203 false _ A35.out).mono ?_); rintro e w38 ⟨rfl, hb⟩; refine ⟨_, rfl, ?_⟩; have n0_ := Aside0.mk (Kd.R_below (ra HO_6.out) hb); have n1_ := Aside0.mk (below_step bw hb); clear HO_6; clear HB; have HO_6 := n0_; have HB := n1_; clear n0_ n1_; (try clear hb); (try clear hb2); (try clear hk); (try clear hi)))
          go_ret2
          exact ⟨ew, bw⟩
         rw [if_neg c34] at H; exact absurd H (by simp)
      rw [if_neg c25] at H; exact absurd H (by simp)
     rw [if_neg c24] at H; exact absurd H (by simp)
    rw [if_neg c23] at H; exact absurd H (by simp)
 replace c3 := Bool.eq_false_iff.mpr c3; subst c3; rw [if_neg nft] at H; simp only [Option.some.injEq, Prod.mk.injEq] at H; obtain ⟨rfl, rfl⟩ := H
 go_enter Tryz.func105, Tryz.ntmps105
 go_wp2_with (first | ((with_reducible refine gate_callee (f := 149) rfl ?_); refine goesL_ (some 12) rfl rfl Tryz.func149 (by kernel_rfl) rfl #[.string a0, .string (⟨#[61, 63]⟩ : ByteArray)] rfl am ?_; (with_reducible refine (strings_CutPrefix.calls a0 (⟨#[61, 63]⟩ : ByteArray) t183 false _ A2.out).mono ?_); rintro e w' ⟨rfl, ⟨nd, rfl⟩⟩; refine ⟨_, rfl, ?_⟩))
 go_ret2
 exact ⟨ew, bw⟩

end Go.Proofs.YtihabmcaplnbcaaGreatDoor.Fn
set_option linter.unusedVariables false
set_option linter.unusedSimpArgs false
namespace Go.Proofs.YtihabmcaplnbcaaGreatDoor.Pl
open Go.RowKit Go.Proofs.YtihabmcaplnbcaaGreatDoorW.PrintWords Go.Proofs.YtihabmcaplnbcaaGreatDoor.Fn

/-! Taken by extract.py out of XPGlyph.lean.tpl, XPWords.lean.tpl, XPClean.lean.tpl, XPClip.lean.tpl, XPOrder.lean.tpl, XPureOrderLines.lean.tpl. -/
theorem get_lt (s : ByteArray) (i : Nat) : (s.get! i).toNat < 256 := (s.get! i).toNat_lt
def isBl (c : UInt8) : Bool := c == 32 || (c == 9 || (c == 13 || c == 10))
def splitW : Bytes → Bytes → List Bytes
 | [], w => if w = [] then [] else [w]
 | c :: r, w => if isBl c then (if w = [] then splitW r [] else w :: splitW r []) else splitW r (w ++ [c])
theorem isBl_nat (c : UInt8) : isBl c = blank c.toNat := by
 unfold isBl blank
 have e : ∀ n : UInt8, (c == n) = (c.toNat == n.toNat) := fun n => by
  rw [Bool.eq_iff_iff, beq_iff_eq, beq_iff_eq]
  exact ⟨fun h => by rw [h], fun h => UInt8.toNat_inj.1 h⟩
 rw [e, e, e, e]
 rfl
theorem tail_high (s : ByteArray) (i j : Nat) (h0 : 0 < j) (h : j < width s i) : 128 ≤ (s.get! (i + j)).toNat := by
 unfold width at h
 rw [Lib.decode_at] at h
 have g0 := get_lt s i
 unfold Lib.decodeN at h
 have hj : j = 1 ∨ j = 2 ∨ j = 3 := by
  repeat' split at h
  all_goals (simp only [] at h; omega)
 rcases hj with rfl | rfl | rfl
 all_goals
  repeat' split at h
  all_goals (simp only [] at h; omega)
theorem get_bs (s : ByteArray) (i : Nat) (h : i < s.size) : (bs s)[i]? = some (s.get! i) := by
 unfold bs
 have h' : i < s.data.size := h
 rw [Array.getElem?_toList, Array.getElem?_eq_getElem h']
 congr 1
 show s.data[i] = s.data[i]!
 rw [getElem!_pos s.data i h']
theorem drop_get (s : ByteArray) (i : Nat) (h : i < s.size) : (bs s).drop i = s.get! i :: (bs s).drop (i + 1) := by
 have h1 : i < (bs s).length := by rw [bs_length]; exact h
 rw [List.drop_eq_getElem_cons h1]
 congr 1
 have := get_bs s i h
 rw [List.getElem?_eq_getElem h1] at this
 exact Option.some.inj this
theorem splitW_run (s : ByteArray) (i : Nat) : ∀ (n : Nat) (w : Bytes), i + n ≤ s.size → (∀ j, j < n → isBl (s.get! (i + j)) = false) →
  splitW ((bs s).drop i) w = splitW ((bs s).drop (i + n)) (w ++ ((bs s).drop i).take n) := by
 intro n
 induction n generalizing i with
 | zero => intro w _ _; simp
 | succ n ih =>
  intro w h hb
  have h0 := hb 0 (by omega)
  rw [Nat.add_zero] at h0
  rw [drop_get s i (by omega), splitW, if_neg (by rw [h0]; decide), ih (i + 1) (w ++ [s.get! i]) (by omega) (fun j hj => by rw [show i + 1 + j = i + (j + 1) by omega]; exact hb (j + 1) (by omega))]
  rw [show i + 1 + n = i + (n + 1) by omega]
  simp
theorem sign_low (s : ByteArray) (i : Nat) (h : (s.get! i).toNat < 128) : sign s i = (s.get! i).toNat ∧ width s i = 1 := by
 unfold sign width
 rw [Lib.decode_at]
 unfold Lib.decodeN
 rw [if_pos h]
 exact ⟨rfl, rfl⟩
theorem sign_high (s : ByteArray) (i : Nat) (h : 128 ≤ (s.get! i).toNat) : 128 ≤ sign s i := by
 unfold sign
 rw [Lib.decode_at]
 have g0 := get_lt s i
 unfold Lib.decodeN
 repeat' split
 all_goals (simp only []; omega)
theorem blank_high (r : Nat) (h : 128 ≤ r) : blank r = false := by
 unfold blank
 have e : ∀ n, n < 128 → (r == n) = false := fun n hn => by
  rw [beq_eq_false_iff_ne]
  omega
 rw [e 32 (by omega), e 9 (by omega), e 13 (by omega), e 10 (by omega)]
 rfl
def open_ (s : ByteArray) (st : Option Nat) (pos : Nat) : Bytes := match st with | none => [] | some a => ((bs s).take pos).drop a
theorem open_snoc (s : ByteArray) (a pos n : Nat) (ha : a ≤ pos) (h : pos + n ≤ s.size) : ((bs s).take (pos + n)).drop a = ((bs s).take pos).drop a ++ ((bs s).drop pos).take n := by
 rw [List.take_add, List.drop_append_of_le_length (by rw [List.length_take, bs_length]; omega)]
theorem spans_words (s : ByteArray) : ∀ (f pos : Nat) (st : Option Nat) (acc : List (Nat × Nat)), pos ≤ s.size → s.size ≤ pos + f → (∀ a, st = some a → a < pos) →
  (Lib.closeSpans s (Lib.spansFromP blank s f pos st acc)).map (fun x => s.extract x.1 x.2) = acc.map (fun x => s.extract x.1 x.2) ++ (splitW ((bs s).drop pos) (open_ s st pos)).map str := by
 intro f
 induction f with
 | zero =>
  intro pos st acc hp hf hst
  obtain rfl : pos = s.size := by omega
  have hd : (bs s).drop s.size = [] := List.drop_of_length_le (by rw [bs_length]; exact Nat.le_refl _)
  rw [hd]
  cases st with
  | none => simp [Lib.spansFromP, Lib.closeSpans, splitW, open_]
  | some a =>
   have ha := hst a rfl
   have he : ((bs s).take s.size).drop a ≠ [] := by
    intro e
    have := congrArg List.length e
    simp [bs_length] at this
    omega
   have hx : s.extract a s.size = str (((bs s).take s.size).drop a) := by rw [← bs_extract, str_bs]
   rw [show open_ s (some a) s.size = ((bs s).take s.size).drop a from rfl, splitW, if_neg he]
   simp only [Lib.spansFromP, Lib.closeSpans]
   simp [hx]
 | succ f ih =>
  intro pos st acc hp hf hst
  by_cases hlt : pos < s.size
  ·have hw := width_pos s pos hlt
   have hw2 : pos + width s pos ≤ s.size := width_end s pos hlt
   have hsg : (Utf8.decode s pos).1 = sign s pos := rfl
   have hwd : (Utf8.decode s pos).2 = width s pos := rfl
   unfold Lib.spansFromP
   rw [if_pos hlt, hsg, hwd]
   by_cases hb : blank (sign s pos) = true
   ·have hlow : (s.get! pos).toNat < 128 := by
     rcases Nat.lt_or_ge (s.get! pos).toNat 128 with h | h
     ·exact h
     rw [blank_high _ (sign_high s pos h)] at hb
     exact absurd hb (by decide)
    obtain ⟨hs1, hs2⟩ := sign_low s pos hlow
    have hbl : isBl (s.get! pos) = true := by rw [isBl_nat, ← hs1]; exact hb
    rw [if_pos hb, hs2, drop_get s pos hlt, splitW, if_pos hbl]
    cases st with
    | none =>
     simp only []
     rw [ih (pos + 1) none acc (by omega) (by omega) (by simp)]
     simp [open_]
    | some a =>
     have ha := hst a rfl
     have he : ((bs s).take pos).drop a ≠ [] := by
      intro e
      have := congrArg List.length e
      simp [bs_length] at this
      omega
     have hx : s.extract a pos = str (((bs s).take pos).drop a) := by rw [← bs_extract, str_bs]
     simp only []
     rw [ih (pos + 1) none _ (by omega) (by omega) (by simp)]
     rw [show open_ s (some a) pos = ((bs s).take pos).drop a from rfl, if_neg he]
     simp [hx, open_]
   rw [if_neg hb]
   have hnb : ∀ j, j < width s pos → isBl (s.get! (pos + j)) = false := by
    intro j hj
    rw [isBl_nat]
    by_cases h0 : j = 0
    ·subst h0
     rw [Nat.add_zero]
     rcases Nat.lt_or_ge (s.get! pos).toNat 128 with h | h
     ·rw [← (sign_low s pos h).1]
      simpa using hb
     exact blank_high _ h
    exact blank_high _ (tail_high s pos j (by omega) hj)
   cases st with
   | none =>
    simp only []
    rw [ih (pos + width s pos) (some pos) acc (by omega) (by omega) (fun a e => by injection e with e; omega)]
    simp only [open_]
    rw [splitW_run s pos (width s pos) [] hw2 hnb]
    rw [open_snoc s pos pos (width s pos) (Nat.le_refl _) hw2, List.drop_of_length_le (l := (bs s).take pos) (by rw [List.length_take]; omega)]
   | some a =>
    have ha := hst a rfl
    simp only []
    rw [ih (pos + width s pos) (some a) acc (by omega) (by omega) (fun b e => by injection e with e; omega)]
    simp only [open_]
    rw [splitW_run s pos (width s pos) _ hw2 hnb, open_snoc s a pos (width s pos) (by omega) hw2]
  obtain rfl : pos = s.size := by omega
  have hd : (bs s).drop s.size = [] := List.drop_of_length_le (by rw [bs_length]; exact Nat.le_refl _)
  rw [Lib.spansFromP_end _ _ _ _ _ _ hlt, hd]
  cases st with
  | none => simp [Lib.closeSpans, splitW, open_]
  | some a =>
   have ha := hst a rfl
   have he : ((bs s).take s.size).drop a ≠ [] := by
    intro e
    have := congrArg List.length e
    simp [bs_length] at this
    omega
   have hx : s.extract a s.size = str (((bs s).take s.size).drop a) := by rw [← bs_extract, str_bs]
   rw [show open_ s (some a) s.size = ((bs s).take s.size).drop a from rfl, splitW, if_neg he]
   simp only [Lib.closeSpans]
   simp [hx]
theorem words_split (s : ByteArray) : words s = (splitW (bs s) []).map str := by
 unfold words Lib.goFieldsP Lib.spansOfP
 rw [spans_words s s.size 0 none [] (by omega) (by omega) (by simp)]
 simp [open_]
theorem splitW_words : ∀ (l w : Bytes), (∀ c ∈ w, isBl c = false) → ∀ x ∈ splitW l w, x ≠ [] ∧ ∀ c ∈ x, isBl c = false := by
 intro l
 induction l with
 | nil =>
  intro w hw x hx
  unfold splitW at hx
  split at hx
  ·simp at hx
  rename_i h
  rw [List.mem_singleton] at hx
  subst hx
  exact ⟨h, hw⟩
 | cons c r ih =>
  intro w hw x hx
  unfold splitW at hx
  split at hx
  ·split at hx
   ·exact ih [] (by simp) x hx
   rename_i h
   rcases List.mem_cons.1 hx with rfl | hx
   ·exact ⟨h, hw⟩
   exact ih [] (by simp) x hx
  rename_i h
  exact ih (w ++ [c]) (fun d hd => by
   rcases List.mem_append.1 hd with hd | hd
   ·exact hw d hd
   rw [List.mem_singleton] at hd
   subst hd
   simpa using h) x hx
theorem splitW_total : ∀ (l w : Bytes), ((splitW l w).map List.length).sum + (splitW l w).length ≤ l.length + w.length + 1 := by
 intro l
 induction l with
 | nil =>
  intro w
  unfold splitW
  split
  ·simp
  simp
 | cons c r ih =>
  intro w
  unfold splitW
  split
  ·split
   ·have := ih []
    simp at this ⊢ <;> omega
   have := ih []
   simp at this ⊢ <;> omega
  have := ih (w ++ [c])
  simp at this ⊢ <;> omega
theorem sign_valid (s : ByteArray) (i : Nat) : sign s i < 55296 ∨ (57344 ≤ sign s i ∧ sign s i ≤ 1114111) := by
 unfold sign
 rw [Lib.decode_at]
 have g0 := get_lt s i
 unfold Lib.decodeN
 repeat' split
 all_goals (simp only []; omega)
theorem enc_length (n : Int) : (Lib.encodeRune n).length ≤ 4 := by
 have := (Lib.runeCells_le n).2
 rwa [Lib.runeCells_length] at this
theorem cleanR_length (r : Nat) : (cleanR r).length ≤ 4 := by
 unfold cleanR
 split
 ·simp
 exact enc_length _
theorem cleanFrom_length (s : ByteArray) : ∀ n i, (cleanFrom s n i).length ≤ 4 * n := by
 intro n
 induction n with
 | zero => intro i; simp [cleanFrom]
 | succ n ih =>
  intro i
  unfold cleanFrom
  split
  ·have := ih (i + width s i)
   have := cleanR_length (sign s i)
   simp; omega
  simp
theorem clean_length (s : ByteArray) : (clean s).length ≤ 4 * s.size := cleanFrom_length s _ _
def jn (l : List Bytes) : Bytes := Lib.join l [32]
def wordN (b : Bytes) : Int := if b = [101, 97, 99, 104] then 1 else if b = [100, 105, 103, 101, 115, 116] then 2 else if b = [115, 105, 108, 101, 110, 116] then 3 else 0
def unk (t : Bytes) : Int × Int × ByteArray := (5, 0, clip (str t) 30)
def cmd : List Bytes → Int × Int × ByteArray
 | [a] =>
  if a = [104, 101, 108, 112] ∨ a = [105, 110, 102, 111] then (1, 0, str []) else if a = [106, 111, 105, 110] ∨ a = [115, 117, 98, 115, 99, 114, 105, 98, 101] then (2, 1, str [])
  else if a = [108, 101, 97, 118, 101] ∨ a = [117, 110, 115, 117, 98, 115, 99, 114, 105, 98, 101] ∨ a = [114, 101, 109, 111, 118, 101] then (3, 0, str []) else unk a
 | [a, b] =>
  if (a = [106, 111, 105, 110] ∨ a = [115, 117, 98, 115, 99, 114, 105, 98, 101]) ∧ wordN b ≠ 0 then (2, wordN b, str []) else if a = [115, 101, 116] ∧ wordN b ≠ 0 then (4, wordN b, str []) else unk (jn [a, b])
 | l => unk (jn l)
theorem rw1 : roster_Word.f 1 = some (str [101, 97, 99, 104]) := by rfl
theorem rw2 : roster_Word.f 2 = some (str [100, 105, 103, 101, 115, 116]) := by rfl
theorem rw3 : roster_Word.f 3 = some (str [115, 105, 108, 101, 110, 116]) := by rfl
theorem mode_is (b : Bytes) (k : Nat) (hk : 4 < k) : roster_Mode.f k (str b) = some (wordN b) := by
 obtain ⟨k, rfl⟩ : ∃ m, k = m + 1 + 1 + 1 + 1 := ⟨k - 4, by omega⟩
 have w1 : wrap64 (1 + 1) = 2 := by unfold wrap64; omega
 have w2 : wrap64 (2 + 1) = 3 := by unfold wrap64; omega
 have w3 : wrap64 (3 + 1) = 4 := by unfold wrap64; omega
 unfold roster_Mode.f wordN
 rw [roster_Mode.l0, if_pos (by decide), rw1]
 simp only [Option.bind_some, toList_str]
 by_cases a : b = [101, 97, 99, 104]
 ·rw [if_pos a.symm, if_pos a]
 rw [if_neg (fun h => a h.symm), if_neg a, w1, roster_Mode.l0, if_pos (by decide), rw2]
 simp only [Option.bind_some, toList_str]
 by_cases a2 : b = [100, 105, 103, 101, 115, 116]
 ·rw [if_pos a2.symm, if_pos a2]
 rw [if_neg (fun h => a2 h.symm), if_neg a2, w2, roster_Mode.l0, if_pos (by decide), rw3]
 simp only [Option.bind_some, toList_str]
 by_cases a3 : b = [115, 105, 108, 101, 110, 116]
 ·rw [if_pos a3.symm, if_pos a3]
 rw [if_neg (fun h => a3 h.symm), if_neg a3, w3, roster_Mode.l0, if_neg (by decide)]
theorem map_data (l : List Bytes) : (l.map str).map (fun x => x.data.toList) = l := by
 rw [List.map_map]
 have : ((fun x : ByteArray => x.data.toList) ∘ str) = id := funext fun x => str_data x
 rw [this, List.map_id]
theorem unknown_is (l : List Bytes) (hl : l.length ≤ 100000000) (hs : (jn l).length ≤ 100000000) : order_unknown.f (l.map str) = some (unk (jn l)) := by
 have e : join (l.map str) (⟨#[32]⟩ : ByteArray) = str (jn l) := by
  unfold join jn
  rw [map_data]
 unfold order_unknown.f strings_Join.f
 rw [if_pos (by simp; omega), e, if_pos (by rw [str_size]; omega)]
 simp only [Option.bind_some]
 unfold glyph_Clip.f
 rw [if_pos (by rw [str_size]; omega), if_pos (by decide)]
 rfl
theorem rdOf_0 (a : Bytes) (r : List Bytes) : rdOf ByteArray.empty ((a :: r).map str) 0 = str a := rfl
theorem rdOf_1 (a b : Bytes) (r : List Bytes) : rdOf ByteArray.empty ((a :: b :: r).map str) 1 = str b := rfl
theorem eta3 (x : Int × Int × ByteArray) : (x.1, x.2.1, x.2.2) = x := rfl
def joinC : List Bytes → Int × Int × ByteArray
 | [a] => (2, 1, str [])
 | [a, b] => if wordN b ≠ 0 then (2, wordN b, str []) else unk (jn [a, b])
 | l => unk (jn l)
theorem join_is (l : List Bytes) (h0 : l ≠ []) (hl : l.length ≤ 100000000) (hs : (jn l).length ≤ 100000000) (k : Nat) (hk : 10 < k) :
  order_join.f k (l.map str) = some (joinC l) := by
 obtain ⟨k, rfl⟩ : ∃ m, k = m + 1 := ⟨k - 1, by omega⟩
 have hu := unknown_is l hl hs
 unfold order_join.f
 match l, h0, hu with
 | [a], _, hu =>
  rw [if_pos (by simp)]
  rfl
 | [a, b], _, hu =>
  rw [if_neg (by simp), if_pos (by simp), if_pos (by simp), rdOf_1, mode_is b _ (by omega)]
  simp only [Option.bind_some]
  by_cases c : wordN b = 0
  ·rw [show (wordN b != 0) = false by simp [c], order_join.j0, if_neg (by decide), hu]
   simp only [Option.bind_some, eta3, joinC]
   rw [if_neg (fun h => h c)]
  rw [show (wordN b != 0) = true by simp [c], order_join.j0, if_pos rfl, if_pos (by simp), rdOf_1, mode_is b _ (by omega)]
  simp only [Option.bind_some, joinC]
  rw [if_pos c]
  rfl
 | a :: b :: c :: r, _, hu =>
  rw [if_neg (by simp; omega), if_neg (by simp; omega), order_join.j0, if_neg (by decide), hu]
  rfl
theorem command_is (l : List Bytes) (hl : l.length ≤ 100000000) (hs : (jn l).length ≤ 100000000) (k : Nat) (hk : 40 < k) :
  order_command.f k (l.map str) = some (cmd l) := by
 obtain ⟨k, rfl⟩ : ∃ m, k = m + 1 + 1 + 1 + 1 := ⟨k - 4, by omega⟩
 have hu := unknown_is l hl hs
 unfold order_command.f
 cases l with
 | nil =>
  rw [if_pos (by simp), hu]
  rfl
 | cons a r =>
  have hj := join_is (a :: r) (by simp) hl hs
  rw [if_neg (by simp <;> omega), if_pos (by simp <;> omega), rdOf_0, toList_str]
  have hone : ((((a :: r).map str).length : Int) == 1) = decide (r = []) := by
   cases r with
   | nil => simp
   | cons b r => simp; omega
  rw [hone]
  have hun : cmd (a :: r) = unk (jn (a :: r)) → ((order_unknown.f ((a :: r).map str)).bind fun x => some (x.1, x.2.1, x.2.2)) = some (cmd (a :: r)) := fun h => by
   rw [hu, h]
   rfl
  -- help, info
  have hA : ∀ m, a = [104, 101, 108, 112] ∨ a = [105, 110, 102, 111] → order_command.j0 (m + 1) ((a :: r).map str) (decide (r = [])) (str a) true = some (cmd (a :: r)) := by
   intro m h
   rw [order_command.j0, if_pos rfl]
   cases r with
   | nil =>
    rw [if_pos (by decide)]
    simp only [cmd]
    rw [if_pos h]
    rfl
   | cons b s =>
    rw [if_neg (by simp)]
    refine hun ?_
    cases s with
    | nil => rcases h with rfl | rfl <;> simp [cmd]
    | cons d s => rfl
  by_cases a1 : a = [104, 101, 108, 112]
  ·rw [if_pos a1, show (a == [104, 101, 108, 112]) = true by rw [a1]; rfl]
   exact hA _ (Or.inl a1)
  rw [if_neg a1]
  by_cases a2 : a = [105, 110, 102, 111]
  ·rw [show (a == [105, 110, 102, 111]) = true by rw [a2]; rfl]
   exact hA _ (Or.inr a2)
  rw [show (a == [105, 110, 102, 111]) = false by simpa using a2, order_command.j0, if_neg (by decide), toList_str]
  have h1 : ¬ (a = [104, 101, 108, 112] ∨ a = [105, 110, 102, 111]) := fun h => h.elim a1 a2
  -- join, subscribe
  have hB : ∀ m, 20 < m → a = [106, 111, 105, 110] ∨ a = [115, 117, 98, 115, 99, 114, 105, 98, 101] → order_command.j1 (m + 1) ((a :: r).map str) (decide (r = [])) (str a) true = some (cmd (a :: r)) := by
   intro m hm h
   rw [order_command.j1, if_pos rfl, hj m (by omega)]
   simp only [Option.bind_some, eta3]
   cases r with
   | nil =>
    simp only [cmd, joinC]
    rw [if_neg h1, if_pos h]
   | cons b s =>
    cases s with
    | nil =>
     simp only [cmd, joinC]
     by_cases c : wordN b = 0
     ·rw [if_neg (fun h => h c), if_neg (fun h => h.2 c), if_neg (fun h => h.2 c)]
     rw [if_pos c, if_pos ⟨h, c⟩]
    | cons d s => rfl
  by_cases b1 : a = [106, 111, 105, 110]
  ·rw [if_pos b1, show (a == [106, 111, 105, 110]) = true by rw [b1]; rfl]
   exact hB _ (by omega) (Or.inl b1)
  rw [if_neg b1]
  by_cases b2 : a = [115, 117, 98, 115, 99, 114, 105, 98, 101]
  ·rw [show (a == [115, 117, 98, 115, 99, 114, 105, 98, 101]) = true by rw [b2]; rfl]
   exact hB _ (by omega) (Or.inr b2)
  rw [show (a == [115, 117, 98, 115, 99, 114, 105, 98, 101]) = false by simpa using b2, order_command.j1, if_neg (by decide), toList_str]
  have h2 : ¬ (a = [106, 111, 105, 110] ∨ a = [115, 117, 98, 115, 99, 114, 105, 98, 101]) := fun h => h.elim b1 b2
  -- leave, unsubscribe, remove
  have hC : ∀ m, a = [108, 101, 97, 118, 101] ∨ a = [117, 110, 115, 117, 98, 115, 99, 114, 105, 98, 101] ∨ a = [114, 101, 109, 111, 118, 101] → order_command.j2 (m + 1) ((a :: r).map str) (decide (r = [])) (str a) true = some (cmd (a :: r)) := by
   intro m h
   rw [order_command.j2, if_pos rfl]
   cases r with
   | nil =>
    rw [if_pos (by decide)]
    simp only [cmd]
    rw [if_neg h1, if_neg h2, if_pos h]
    rfl
   | cons b s =>
    rw [if_neg (by simp)]
    refine hun ?_
    cases s with
    | nil => rcases h with rfl | rfl | rfl <;> simp [cmd]
    | cons d s => rfl
  by_cases c1 : a = [108, 101, 97, 118, 101]
  ·rw [if_pos c1, show (a == [108, 101, 97, 118, 101]) = true by rw [c1]; rfl]
   exact hC _ (Or.inl c1)
  rw [if_neg c1]
  by_cases c2 : a = [117, 110, 115, 117, 98, 115, 99, 114, 105, 98, 101]
  ·rw [if_pos c2, show (a == [117, 110, 115, 117, 98, 115, 99, 114, 105, 98, 101]) = true by rw [c2]; rfl]
   exact hC _ (Or.inr (Or.inl c2))
  rw [if_neg c2]
  by_cases c3 : a = [114, 101, 109, 111, 118, 101]
  ·rw [show (a == [114, 101, 109, 111, 118, 101]) = true by rw [c3]; rfl]
   exact hC _ (Or.inr (Or.inr c3))
  rw [show (a == [114, 101, 109, 111, 118, 101]) = false by simpa using c3, order_command.j2, if_neg (by decide), toList_str]
  have h3 : ¬ (a = [108, 101, 97, 118, 101] ∨ a = [117, 110, 115, 117, 98, 115, 99, 114, 105, 98, 101] ∨ a = [114, 101, 109, 111, 118, 101]) := fun h => h.elim c1 (fun h => h.elim c2 c3)
  by_cases d : a = [115, 101, 116]
  ·rw [if_pos d]
   cases r with
   | nil =>
    rw [if_neg (by simp), order_command.j3, if_neg (by decide)]
    refine hun ?_
    simp only [cmd]
    rw [if_neg h1, if_neg h2, if_neg h3]
    have e : jn [a] = a := Lib.join_one a [32]
    rw [e]
   | cons b s =>
    cases s with
    | nil =>
     rw [if_pos (by simp), if_pos (by simp), rdOf_1, mode_is b _ (by omega)]
     simp only [Option.bind_some]
     by_cases c : wordN b = 0
     ·rw [show (wordN b != 0) = false by simp [c], order_command.j3, if_neg (by decide)]
      refine hun ?_
      simp only [cmd]
      rw [if_neg (fun h => h.2 c), if_neg (fun h => h.2 c)]
     rw [show (wordN b != 0) = true by simp [c], order_command.j3, if_pos rfl, if_pos (by simp), rdOf_1, mode_is b _ (by omega)]
     simp only [Option.bind_some, cmd]
     rw [if_neg (fun h => h2 h.1), if_pos ⟨d, c⟩]
     rfl
    | cons e s =>
     rw [if_neg (by simp; omega), order_command.j3, if_neg (by decide)]
     exact hun rfl
  rw [if_neg d]
  refine hun ?_
  cases r with
  | nil =>
   simp only [cmd]
   rw [if_neg h1, if_neg h2, if_neg h3]
   have e : jn [a] = a := Lib.join_one a [32]
   rw [e]
  | cons b s =>
   cases s with
   | nil =>
    simp only [cmd]
    rw [if_neg (fun h => h2 h.1), if_neg (fun h => d h.1)]
   | cons e s => rfl
def lineW (s : ByteArray) : List Bytes := splitW (fold (clean s)) []
theorem sum_tail (l : List Bytes) : (Lib.joinTail [32] l).length = (l.map List.length).sum + l.length := by
 induction l with
 | nil => rfl
 | cons x l ih =>
  have e : Lib.joinTail [32] (x :: l) = 32 :: (x ++ Lib.joinTail [32] l) := by simp [Lib.joinTail]
  rw [e]
  simp [ih]
  omega
theorem jn_length (l : List Bytes) : (jn l).length ≤ (l.map List.length).sum + l.length := by
 cases l with
 | nil => simp [jn, Lib.join_nil]
 | cons x r =>
  have e : jn (x :: r) = x ++ Lib.joinTail [32] r := Lib.join_cons x r [32]
  rw [e, List.length_append, sum_tail]
  simp
  omega
theorem lineW_size (s : ByteArray) : (lineW s).length ≤ 4 * s.size + 1 ∧ (jn (lineW s)).length ≤ 4 * s.size + 1 := by
 have h1 := splitW_total (fold (clean s)) []
 have h2 := jn_length (lineW s)
 have h3 := clean_length s
 have h4 := fold_length (clean s)
 unfold lineW at h2 ⊢
 simp at h1
 omega
theorem words_is (s : ByteArray) (hs : s.size ≤ 20000000) : order_words.f s = some ((lineW s).map str) := by
 have h3 := clean_length s
 have h4 := fold_length (clean s)
 unfold order_words.f glyph_Clean.f
 rw [if_pos (by omega)]
 simp only [Option.bind_some]
 unfold glyph_Fold.f
 rw [if_pos (by rw [str_size]; omega)]
 simp only [Option.bind_some]
 unfold glyph_Words.f
 rw [if_pos (by rw [str_size, str_data]; omega)]
 simp only [Option.bind_some]
 rw [words_split, bs_str, str_data]
 rfl
theorem line_is (s : ByteArray) (hs : s.size ≤ 1000000) (k : Nat) (hk : 40 < k) : order_Line.f k s = some (cmd (lineW s)) := by
 have h := lineW_size s
 unfold order_Line.f
 rw [words_is s (by omega)]
 simp only [Option.bind_some]
 rw [command_is _ (by omega) (by omega) k hk]
 rfl
def showC (o m : Int) (t : ByteArray) (b : Bytes) : ByteArray :=
 if o = 1 then str [104, 101, 108, 112] else if o = 3 then str [108, 101, 97, 118, 101] else if o = 2 ∧ b ≠ [] then str [106, 111, 105, 110, 32] ++ str b
 else if o = 4 ∧ b ≠ [] then str [115, 101, 116, 32] ++ str b else t
theorem show_is (o m : Int) (t : ByteArray) (b : Bytes) (hb : roster_Word.f m = some (str b)) (hl : b.length ≤ 6) (k : Nat) (hk : 1 < k) : order_Show.f k o m t = some (showC o m t b) := by
 obtain ⟨k, rfl⟩ : ∃ m, k = m + 1 := ⟨k - 1, by omega⟩
 unfold order_Show.f showC
 rw [hb]
 simp only [Option.bind_some, order_Show.j0, toList_str]
 have hz : (str b).size = b.length := str_size b
 by_cases a : o = 1
 ·rw [if_pos a, if_pos a]; rfl
 rw [if_neg a, if_neg a]
 by_cases a3 : o = 3
 ·rw [if_pos a3, if_pos a3]; rfl
 rw [if_neg a3, if_neg a3]
 by_cases a2 : o = 2
 ·rw [if_pos a2]
  by_cases c : b = []
  ·rw [if_neg (by simp [c]), if_neg (by omega), if_neg (fun h => h.2 c), if_neg (fun h => h.2 c)]
  rw [if_pos (by simp [c]), if_pos (by omega), if_pos ⟨a2, c⟩]; rfl
 have n2 : ¬ (o = 2 ∧ b ≠ []) := fun h => a2 h.1
 rw [if_neg a2, if_neg (by decide), if_neg n2]
 by_cases a4 : o = 4
 ·rw [if_pos a4]
  by_cases c : b = []
  ·have n4 : ¬ (o = 4 ∧ b ≠ []) := fun h => h.2 c
   rw [if_pos c, if_neg n4]
  rw [if_neg c, if_pos (by omega), if_pos ⟨a4, c⟩]; rfl
 have n4 : ¬ (o = 4 ∧ b ≠ []) := fun h => a4 h.1
 rw [if_neg a4, if_neg n4]
set_option maxRecDepth 100000 in
theorem works1 : cmd (lineW (⟨#[32, 83, 117, 98, 115, 99, 114, 105, 98, 101, 32, 32, 100, 105, 103, 101, 115, 116]⟩ : ByteArray)) = (2, 2, str []) := by decide +kernel
set_option maxRecDepth 100000 in
theorem works2 : (cmd (lineW (⟨#[119, 104, 97, 116]⟩ : ByteArray))).1 = 5 := by decide +kernel
theorem works_is (k : Nat) (hk : 40 < k) : bulletinlaw35_works.f k = some true := by
 unfold bulletinlaw35_works.f
 rw [line_is _ (by decide) k hk, works1]
 simp only [Option.bind_some, if_true]
 rw [toList_str, if_pos rfl, show_is 2 2 (str []) _ rw2 (by decide) k (by omega)]
 simp only [Option.bind_some]
 rw [show showC 2 2 (str []) [100, 105, 103, 101, 115, 116] = str [106, 111, 105, 110, 32, 100, 105, 103, 101, 115, 116] from rfl, toList_str, if_pos rfl, line_is _ (by decide) k hk]
 simp only [Option.bind_some]
 rw [works2]
 rfl
end Go.Proofs.YtihabmcaplnbcaaGreatDoor.Pl
set_option linter.unusedVariables false
namespace Go.Proofs.YtihabmcaplnbcaaGreatDoor.Pl
open Go.RowKit Go.Proofs.YtihabmcaplnbcaaGreatDoorW.PrintWords

/-! Count, Valid, Clip of a text of good signs. -/
theorem enc_app (a b : List Nat) : enc (a ++ b) = enc a ++ enc b := by simp [enc]
theorem enc_cons (r : Nat) (b : List Nat) : enc (r :: b) = er r ++ enc b := by simp [enc]
end Go.Proofs.YtihabmcaplnbcaaGreatDoor.Pl
set_option linter.unusedVariables false
set_option linter.unusedSimpArgs false
namespace Go.Proofs.YtihabmcaplnbcaaGreatDoor.Pl
open Go.RowKit Go.Proofs.YtihabmcaplnbcaaGreatDoorW.PrintWords

/-! A line's words as texts of good signs: cleaned, folded, cut, joined. -/
theorem er_low (r : Nat) (h : r < 128) : er r = [UInt8.ofNat r] := by
 unfold er Lib.encodeRune
 rw [Lib.encodeRuneZ_one (by omega) (by omega)]
 rfl
def n2 : List Nat → Prop
 | a :: b :: r => ¬ (a = 32 ∧ b = 32) ∧ n2 (b :: r)
 | _ => True
def b2 : Bytes → Prop
 | a :: b :: r => ¬ (a = 32 ∧ b = 32) ∧ b2 (b :: r)
 | _ => True
end Go.Proofs.YtihabmcaplnbcaaGreatDoor.Pl
namespace Go.Proofs.YtihabmcaplnbcaaGreatDoor.Fn
open Go.RowKit Go.Proofs.YtihabmcaplnbcaaGreatDoorW.PrintWords Go.Proofs.YtihabmcaplnbcaaGreatDoorW.PrintLast Go.Proofs.YtihabmcaplnbcaaGreatDoorW.PrintMore
attribute [local go_sem] max2_int min2_int max_two min_two max_three min_three max_four min_four
set_option linter.unusedVariables false
set_option linter.unusedSimpArgs false
def lex_text.f (a0 : Int) : Option (Bool) := if a0 = 9 then (some true) else (if a0 ≥ 32 then (some (a0 != 127)) else (some false))
def lex_atomic.f (a0 : Int) : Option (Bool) := if a0 ≥ 97 then (if a0 ≤ 122 then (some true) else (if a0 ≥ 65 then (if a0 ≤ 90 then (some true) else (if a0 ≥ 48 then (if a0 ≤ 57 then (some true) else (if a0 > 127 then (some true) else ((strings_IndexByte.f (⟨#[33, 35, 36, 37, 38, 39, 42, 43, 45, 47, 61, 63, 94, 95, 96, 123, 124, 125, 126]⟩ : ByteArray) a0).bind fun t226 => (some (decide (t226 ≥ 0)))))) else (if a0 > 127 then (some true) else ((strings_IndexByte.f (⟨#[33, 35, 36, 37, 38, 39, 42, 43, 45, 47, 61, 63, 94, 95, 96, 123, 124, 125, 126]⟩ : ByteArray) a0).bind fun t227 => (some (decide (t227 ≥ 0))))))) else (if a0 ≥ 48 then (if a0 ≤ 57 then (some true) else (if a0 > 127 then (some true) else ((strings_IndexByte.f (⟨#[33, 35, 36, 37, 38, 39, 42, 43, 45, 47, 61, 63, 94, 95, 96, 123, 124, 125, 126]⟩ : ByteArray) a0).bind fun t228 => (some (decide (t228 ≥ 0)))))) else (if a0 > 127 then (some true) else ((strings_IndexByte.f (⟨#[33, 35, 36, 37, 38, 39, 42, 43, 45, 47, 61, 63, 94, 95, 96, 123, 124, 125, 126]⟩ : ByteArray) a0).bind fun t229 => (some (decide (t229 ≥ 0)))))))) else (if a0 ≥ 65 then (if a0 ≤ 90 then (some true) else (if a0 ≥ 48 then (if a0 ≤ 57 then (some true) else (if a0 > 127 then (some true) else ((strings_IndexByte.f (⟨#[33, 35, 36, 37, 38, 39, 42, 43, 45, 47, 61, 63, 94, 95, 96, 123, 124, 125, 126]⟩ : ByteArray) a0).bind fun t230 => (some (decide (t230 ≥ 0)))))) else (if a0 > 127 then (some true) else ((strings_IndexByte.f (⟨#[33, 35, 36, 37, 38, 39, 42, 43, 45, 47, 61, 63, 94, 95, 96, 123, 124, 125, 126]⟩ : ByteArray) a0).bind fun t231 => (some (decide (t231 ≥ 0))))))) else (if a0 ≥ 48 then (if a0 ≤ 57 then (some true) else (if a0 > 127 then (some true) else ((strings_IndexByte.f (⟨#[33, 35, 36, 37, 38, 39, 42, 43, 45, 47, 61, 63, 94, 95, 96, 123, 124, 125, 126]⟩ : ByteArray) a0).bind fun t232 => (some (decide (t232 ≥ 0)))))) else (if a0 > 127 then (some true) else ((strings_IndexByte.f (⟨#[33, 35, 36, 37, 38, 39, 42, 43, 45, 47, 61, 63, 94, 95, 96, 123, 124, 125, 126]⟩ : ByteArray) a0).bind fun t233 => (some (decide (t233 ≥ 0)))))))
end Go.Proofs.YtihabmcaplnbcaaGreatDoor.Fn
set_option linter.unusedVariables false
namespace Go.Proofs.YtihabmcaplnbcaaGreatDoor.Pl
open Go.RowKit Go.Proofs.YtihabmcaplnbcaaGreatDoorW.PrintWords Go.Proofs.YtihabmcaplnbcaaGreatDoor.Fn

/-! Layer 12, the program's and the document's: which bytes are atomic; atoms. -/
def atomic (c : UInt8) : Bool := (lex_atomic.f (c.toNat : Int)).getD false
end Go.Proofs.YtihabmcaplnbcaaGreatDoor.Pl
namespace Go.Proofs.YtihabmcaplnbcaaGreatDoor.Fn
open Go.RowKit Go.Proofs.YtihabmcaplnbcaaGreatDoorW.PrintWords Go.Proofs.YtihabmcaplnbcaaGreatDoorW.PrintLast Go.Proofs.YtihabmcaplnbcaaGreatDoorW.PrintMore
attribute [local go_sem] max2_int min2_int max_two min_two max_three min_three max_four min_four
set_option linter.unusedVariables false
set_option linter.unusedSimpArgs false
def addr_labelled.f (a0 : Int) : Option (Bool) := if a0 ≥ 97 then (if a0 ≤ 122 then (some true) else (if a0 ≥ 65 then (if a0 ≤ 90 then (some true) else (if a0 ≥ 48 then (if a0 ≤ 57 then (some true) else (some (a0 == 45))) else (some (a0 == 45)))) else (if a0 ≥ 48 then (if a0 ≤ 57 then (some true) else (some (a0 == 45))) else (some (a0 == 45))))) else (if a0 ≥ 65 then (if a0 ≤ 90 then (some true) else (if a0 ≥ 48 then (if a0 ≤ 57 then (some true) else (some (a0 == 45))) else (some (a0 == 45)))) else (if a0 ≥ 48 then (if a0 ≤ 57 then (some true) else (some (a0 == 45))) else (some (a0 == 45))))
end Go.Proofs.YtihabmcaplnbcaaGreatDoor.Fn
set_option linter.unusedVariables false
namespace Go.Proofs.YtihabmcaplnbcaaGreatDoor.Pl
open Go.RowKit Go.Proofs.YtihabmcaplnbcaaGreatDoorW.PrintWords Go.Proofs.YtihabmcaplnbcaaGreatDoor.Fn

/-! Layer 13, the program's: labels. -/
def labelled (c : UInt8) : Bool := (addr_labelled.f (c.toNat : Int)).getD false
def labelL (l : Bytes) : Bool := l.all labelled && (match l.head?, l.getLast? with | some a, some b => a != 45 && b != 45 | _, _ => false)
def label (s : ByteArray) : Bool := labelL (bs s)
end Go.Proofs.YtihabmcaplnbcaaGreatDoor.Pl
set_option linter.unusedVariables false
namespace Go.Proofs.YtihabmcaplnbcaaGreatDoor.Fn
open Go.RowKit Go.Shelf

/-! strings.SplitSeq: its iterator keeps what is left of the text in a cell of its own. -/

def cutsN (find : ByteArray → Int) (L : Nat) : Nat → ByteArray → List ByteArray
 | 0, s => [s]
 | k + 1, s => if find s < 0 then [s] else s.extract 0 (find s).toNat :: cutsN find L k (s.extract ((find s).toNat + L) s.size)
def cuts (find : ByteArray → Int) (L : Nat) (s : ByteArray) : List ByteArray := cutsN find L s.size s

structure Finds (find : ByteArray → Int) (L : Nat) : Prop where
 pos : 1 ≤ L
 fits : ∀ s, 0 ≤ find s → (find s).toNat + L ≤ s.size

def KeptD (D : Nat → Prop) (A B : World) : Prop := ∀ b, D b → B.heap[b]? = A.heap[b]?
theorem KeptD.refl (D : Nat → Prop) (A : World) : KeptD D A A := fun _ _ => rfl
theorem KeptD.trans {D : Nat → Prop} {A B C : World} (h : KeptD D A B) (k : KeptD D B C) : KeptD D A C := fun b hb => (k b hb).trans (h b hb)
theorem KeptD.cell {D : Nat → Prop} {A B : World} (h : KeptD D A B) {p : Addr} (hp : D p.block) : B.cell? p = A.cell? p := World.cell?_of_block (h p.block hp)
theorem KeptD.frozen {D : Nat → Prop} {A B : World} (h : KeptD D A B) {p : Addr} (hp : D p.block) : B.frozen? p = A.frozen? p := World.frozen?_of_block (h p.block hp)
theorem KeptD.of_below {D : Nat → Prop} {n : Nat} {A B : World} (h : Below n A B) (hD : ∀ b, D b → b < n) : KeptD D A B := fun b hb => h.block b (hD b hb)
theorem KeepsOthers.of_below {A B : World} (h : Below A.heap.size A B) : KeepsOthers A B := ⟨h.size, fun k o hk _ => (h.block k (Array.getElem?_eq_some_iff.1 hk).1).trans hk⟩

attribute [local go_sem] Oper.semAt_some

end Go.Proofs.YtihabmcaplnbcaaGreatDoor.Fn
set_option linter.unusedVariables false
namespace Go.Proofs.YtihabmcaplnbcaaGreatDoor.Fn
open Go.RowKit Go.Shelf

structure SplitBoxes (bs : Nat) (s sep : ByteArray) (w : World) : Prop where
 text : w.cell? ⟨bs, 0, none⟩ = some (.string s)
 free : w.frozen? ⟨bs, 0, none⟩ = false
 sep : w.cell? ⟨bs + 1, 0, none⟩ = some (.string sep)
 zero : w.cell? ⟨bs + 2, 0, none⟩ = some (.int .i64 0)

def findOne (c : UInt8) (t : ByteArray) : Int := Lib.indexByte t.data.toList c
end Go.Proofs.YtihabmcaplnbcaaGreatDoor.Fn
set_option linter.unusedVariables false
namespace Go.Proofs.YtihabmcaplnbcaaGreatDoor.Pl
def dots (s : ByteArray) : List ByteArray := Fn.cuts (Fn.findOne 46) 1 s
end Go.Proofs.YtihabmcaplnbcaaGreatDoor.Pl
namespace Go.Proofs.YtihabmcaplnbcaaGreatDoor.Fn
open Go.RowKit Go.Shelf Go.Proofs.YtihabmcaplnbcaaGreatDoorW.PrintWords

attribute [local go_sem] Oper.semAt_some

end Go.Proofs.YtihabmcaplnbcaaGreatDoor.Fn
set_option linter.unusedVariables false
namespace Go.Proofs.YtihabmcaplnbcaaGreatDoor.Pl
def domLong (s : ByteArray) (l : List ByteArray) : Bool := decide (253 < (s.size : Int)) || l.any (fun x => decide (63 < (x.size : Int)))
def domain (s : ByteArray) : Int := if (dots s).all label = true then (if domLong s (dots s) = true then 2 else 0) else 130
end Go.Proofs.YtihabmcaplnbcaaGreatDoor.Pl
namespace Go.Proofs.YtihabmcaplnbcaaGreatDoor.Fn
open Go.RowKit Go.Shelf Go.Proofs.YtihabmcaplnbcaaGreatDoorW.PrintWords

attribute [local go_sem] Oper.semAt_some

end Go.Proofs.YtihabmcaplnbcaaGreatDoor.Fn
namespace Go.Proofs.YtihabmcaplnbcaaGreatDoor.Fn
open Go.RowKit Go.Proofs.YtihabmcaplnbcaaGreatDoorW.PrintWords Go.Proofs.YtihabmcaplnbcaaGreatDoorW.PrintLast Go.Proofs.YtihabmcaplnbcaaGreatDoorW.PrintMore
attribute [local go_sem] max2_int min2_int max_two min_two max_three min_three max_four min_four
set_option linter.unusedVariables false
set_option linter.unusedSimpArgs false

mutual
def lex_Quote.l0 : Nat → ByteArray → List Int → Int → Int → Option (ByteArray)
 | 0, _, _, _, _ => none
 | k + 1, x0, x3, x8, x9 => if x9 < x8 then (if 0 ≤ x9 then (if x9 < (x0.size : Int) then (if (bt x0 x9) = 34 then (lex_Quote.j1 k x0 x3 (bt x0 x9) x8 x9 true) else (lex_Quote.j1 k x0 x3 (bt x0 x9) x8 x9 ((bt x0 x9) == 92))) else (none)) else (none)) else (if x3.length < 140737488355328 then (some (strOfNums (x3 ++ [34]))) else (none))
def lex_Quote.j1 : Nat → ByteArray → List Int → Int → Int → Int → Bool → Option (ByteArray)
 | 0, _, _, _, _, _, _ => none
 | k + 1, x0, x3, x5, x8, x9, x15 => if x15 = true then (if x3.length < 140737488355328 then ((some (x3 ++ [92] : List Int)).bind fun y241 => (if y241.length < 140737488355328 then (lex_Quote.l0 k x0 (y241 ++ [x5]) x8 (wrap64 (x9 + 1))) else (none))) else (none)) else ((lex_text.f x5).bind fun t247 => (if t247 = true then (if x3.length < 140737488355328 then (lex_Quote.l0 k x0 (x3 ++ [x5]) x8 (wrap64 (x9 + 1))) else (none)) else (if x3.length < 140737488355328 then (lex_Quote.l0 k x0 (x3 ++ [32]) x8 (wrap64 (x9 + 1))) else (none))))
end
end Go.Proofs.YtihabmcaplnbcaaGreatDoor.Fn
namespace Go.Proofs.YtihabmcaplnbcaaGreatDoor.Fn
open Go.RowKit Go.Proofs.YtihabmcaplnbcaaGreatDoorW.PrintWords Go.Proofs.YtihabmcaplnbcaaGreatDoorW.PrintLast Go.Proofs.YtihabmcaplnbcaaGreatDoorW.PrintMore
attribute [local go_sem] max2_int min2_int max_two min_two max_three min_three max_four min_four
set_option linter.unusedVariables false
set_option linter.unusedSimpArgs false
end Go.Proofs.YtihabmcaplnbcaaGreatDoor.Fn
set_option linter.unusedVariables false
namespace Go.Proofs.YtihabmcaplnbcaaGreatDoor.Pl
open Go.RowKit Go.Proofs.YtihabmcaplnbcaaGreatDoorW.PrintWords Go.Proofs.YtihabmcaplnbcaaGreatDoor.Fn

/-! Layer 13, the program's, over lists of bytes. -/
theorem mono_up {α : Type} {f : Nat → Option α} (h : ∀ k, LeO (f k) (f (k + 1))) {r : α} {k : Nat} (hr : f k = some r) : ∀ (k' : Nat), k ≤ k' → f k' = some r := by
 intro k' hk
 obtain ⟨d, rfl⟩ : ∃ d, k' = k + d := ⟨k' - k, by omega⟩
 clear hk
 induction d with
 | zero => exact hr
 | succ d ih => exact h (k + d) r ih

def splitL (c : UInt8) : Bytes → List Bytes
 | [] => [[]]
 | x :: l => if x = c then [] :: splitL c l else match splitL c l with
  | [] => [[x]]
  | w :: r => (x :: w) :: r
def atomL (w : Bytes) : Bool := w.all atomic && !w.isEmpty
def dottedL (l : Bytes) : Bool := (splitL 46 l).all atomL
/-! Quote -/
def text (c : UInt8) : Bool := (lex_text.f (c.toNat : Int)).getD false
def qB (c : UInt8) : Bytes := if c = 34 ∨ c = 92 then [92, c] else if text c = true then [c] else [32]
def quote (l : Bytes) : Bytes := 34 :: (l.flatMap qB ++ [34])
theorem byte_eq (c : UInt8) (n : Nat) (h : n < 256) : ((c.toNat : Int) = (n : Int)) = (c = UInt8.ofNat n) := by
 apply propext
 constructor
 ·intro q
  apply UInt8.toNat_inj.1
  simp
  omega
 intro q
 rw [q]
 simp
 omega
/-! Text, Key, why, Right -/
def localL (a : Bytes) : Bytes := if dottedL a = true then a else quote a
def textL (a b : Bytes) : Bytes := localL a ++ 64 :: b
def why (a b : ByteArray) : Int :=
 if domain b = 130 ∨ bs a = [] ∨ plain a = false then 130
 else if domain b ≠ 0 ∨ 64 < a.size ∨ 254 < (textL (bs a) (bs b)).length then 2 else 0
def right (a b : ByteArray) : Bool := decide (why a b = 0) && (bs b == fold (bs b))
end Go.Proofs.YtihabmcaplnbcaaGreatDoor.Pl
set_option linter.unusedVariables false
namespace Go.Proofs.YtihabmcaplnbcaaGreatDoor.Pl
open Go.RowKit Go.Proofs.YtihabmcaplnbcaaGreatDoorW.PrintWords Go.Proofs.YtihabmcaplnbcaaGreatDoor.Fn

/-! Capital letters, dots, quotes and the sign @. -/
theorem forall_byte {p : UInt8 → Prop} [DecidablePred p] (h : ∀ i : Fin 256, p (UInt8.ofNat i.val)) (c : UInt8) : p c := by
 have := h ⟨c.toNat, c.toNat_lt⟩
 simpa using this
/-! plain: of all bytes -/
end Go.Proofs.YtihabmcaplnbcaaGreatDoor.Pl
set_option linter.unusedVariables false
set_option linter.unusedSimpArgs false
namespace Go.Proofs.YtihabmcaplnbcaaGreatDoor.Pl
open Go.RowKit Go.Proofs.YtihabmcaplnbcaaGreatDoorW.PrintWords

/-! Layer 19: what is encoded is decoded as it was. -/
/-! The words of an encoded text. -/
/-! A text without =? is read as it is. -/
theorem wordL_no {s : Bytes} (h : s.take 2 ≠ [61, 63]) : wordL s = none := by
 unfold wordL
 rw [if_neg h]
/-! The signs of a text. -/
theorem raw_ok (s : ByteArray) : ∀ n i, ∀ r ∈ rawFrom s n i, okR r
 | 0, i => by simp [rawFrom]
 | n + 1, i => by
  intro r hr
  rw [rawFrom] at hr
  split at hr
  ·rcases List.mem_cons.1 hr with rfl | hr
   ·exact sign_valid s i
   exact raw_ok s n _ r hr
  simp at hr
theorem get_eq {s : ByteArray} {pos : Nat} (h : pos < s.size) : (bs s).drop pos = (s.get! pos) :: (bs s).drop (pos + 1) := drop_get s pos h
theorem u8_eq (b : UInt8) (x : Int) (h : x = (b.toNat : Int)) : x.toNat.toUInt8 = b := by
 subst h
 show UInt8.ofNat ((b.toNat : Int)).toNat = b
 simp
theorem er_one {r : Nat} (h : r ≤ 127) : er r = [((r : Int)).toNat.toUInt8] := by unfold er Lib.encodeRune; rw [Lib.encodeRuneZ_one (by omega) (by omega)]; rfl
theorem er_two {r : Nat} (h0 : 128 ≤ r) (h1 : r ≤ 2047) : er r = [(192 + (r : Int) / 64).toNat.toUInt8, (128 + (r : Int) % 64).toNat.toUInt8] := by unfold er Lib.encodeRune; rw [Lib.encodeRuneZ_two (by omega) (by omega)]; rfl
theorem er_three {r : Nat} (h : (2048 ≤ r ∧ r < 55296) ∨ (57343 < r ∧ r ≤ 65535)) : er r = [(224 + (r : Int) / 4096).toNat.toUInt8, (128 + (r : Int) / 64 % 64).toNat.toUInt8, (128 + (r : Int) % 64).toNat.toUInt8] := by unfold er Lib.encodeRune; rw [Lib.encodeRuneZ_three (by omega)]; rfl
theorem er_four {r : Nat} (h0 : 65536 ≤ r) (h1 : r ≤ 1114111) : er r = [(240 + (r : Int) / 262144).toNat.toUInt8, (128 + (r : Int) / 4096 % 64).toNat.toUInt8, (128 + (r : Int) / 64 % 64).toNat.toUInt8, (128 + (r : Int) % 64).toNat.toUInt8] := by unfold er Lib.encodeRune; rw [Lib.encodeRuneZ_four (by omega) (by omega)]; rfl
theorem dec_take (s : ByteArray) (pos : Nat) (h : pos < s.size) (hb : badAt s pos = false) : (bs s).drop pos = er (Utf8.decode s pos).1 ++ (bs s).drop (pos + (Utf8.decode s pos).2) := by
 have g0 := get_lt s pos
 have g1 := get_lt s (pos + 1)
 have g2 := get_lt s (pos + 2)
 have g3 := get_lt s (pos + 3)
 unfold badAt at hb
 rw [get_eq h]
 rw [Lib.decode_at] at hb ⊢
 unfold Lib.decodeN at hb ⊢
 by_cases c0 : (s.get! pos).toNat < 128
 ·rw [if_pos c0]
  simp only []
  rw [er_one (by omega), u8_eq (s.get! pos) _ rfl]
  rfl
 rw [if_neg c0] at hb ⊢
 by_cases c1 : (s.get! pos).toNat / 32 = 6 ∧ (1 < s.size - pos ∧ (s.get! (pos + 1)).toNat / 64 = 2)
 ·rw [if_pos c1] at hb ⊢
  by_cases d1 : (s.get! pos).toNat % 32 * 64 + (s.get! (pos + 1)).toNat % 64 ≥ 128
  ·rw [if_pos d1]
   simp only []
   rw [er_two (by omega) (by omega), get_eq (s := s) (pos := pos + 1) (by omega), u8_eq (s.get! pos) _ (by omega), u8_eq (s.get! (pos + 1)) _ (by omega)]
   rfl
  rw [if_neg d1] at hb
  simp at hb
 rw [if_neg c1] at hb ⊢
 by_cases c2 : (s.get! pos).toNat / 16 = 14 ∧ (1 < s.size - pos ∧ (s.get! (pos + 1)).toNat / 64 = 2) ∧ (2 < s.size - pos ∧ (s.get! (pos + 2)).toNat / 64 = 2)
 ·rw [if_pos c2] at hb ⊢
  by_cases d1 : (s.get! pos).toNat % 16 * 4096 + (s.get! (pos + 1)).toNat % 64 * 64 + (s.get! (pos + 2)).toNat % 64 ≥ 2048 ∧ ((s.get! pos).toNat % 16 * 4096 + (s.get! (pos + 1)).toNat % 64 * 64 + (s.get! (pos + 2)).toNat % 64 < 55296 ∨ (57344 ≤ (s.get! pos).toNat % 16 * 4096 + (s.get! (pos + 1)).toNat % 64 * 64 + (s.get! (pos + 2)).toNat % 64 ∧ (s.get! pos).toNat % 16 * 4096 + (s.get! (pos + 1)).toNat % 64 * 64 + (s.get! (pos + 2)).toNat % 64 ≤ 1114111))
  ·rw [if_pos d1]
   simp only []
   rw [er_three (by omega), get_eq (s := s) (pos := pos + 1) (by omega), get_eq (s := s) (pos := pos + 1 + 1) (by omega), u8_eq (s.get! pos) _ (by omega), u8_eq (s.get! (pos + 1)) _ (by omega), u8_eq (s.get! (pos + 2)) _ (by omega)]
   rfl
  rw [if_neg d1] at hb
  simp at hb
 rw [if_neg c2] at hb ⊢
 by_cases c3 : (s.get! pos).toNat / 8 = 30 ∧ (1 < s.size - pos ∧ (s.get! (pos + 1)).toNat / 64 = 2) ∧ (2 < s.size - pos ∧ (s.get! (pos + 2)).toNat / 64 = 2) ∧ (3 < s.size - pos ∧ (s.get! (pos + 3)).toNat / 64 = 2)
 ·rw [if_pos c3] at hb ⊢
  by_cases d1 : (s.get! pos).toNat % 8 * 262144 + (s.get! (pos + 1)).toNat % 64 * 4096 + (s.get! (pos + 2)).toNat % 64 * 64 + (s.get! (pos + 3)).toNat % 64 ≥ 65536 ∧ ((s.get! pos).toNat % 8 * 262144 + (s.get! (pos + 1)).toNat % 64 * 4096 + (s.get! (pos + 2)).toNat % 64 * 64 + (s.get! (pos + 3)).toNat % 64 < 55296 ∨ (57344 ≤ (s.get! pos).toNat % 8 * 262144 + (s.get! (pos + 1)).toNat % 64 * 4096 + (s.get! (pos + 2)).toNat % 64 * 64 + (s.get! (pos + 3)).toNat % 64 ∧ (s.get! pos).toNat % 8 * 262144 + (s.get! (pos + 1)).toNat % 64 * 4096 + (s.get! (pos + 2)).toNat % 64 * 64 + (s.get! (pos + 3)).toNat % 64 ≤ 1114111))
  ·rw [if_pos d1]
   simp only []
   obtain ⟨v, hv⟩ : ∃ v, (s.get! pos).toNat % 8 * 262144 + (s.get! (pos + 1)).toNat % 64 * 4096 + (s.get! (pos + 2)).toNat % 64 * 64 + (s.get! (pos + 3)).toNat % 64 = v := ⟨_, rfl⟩
   rw [hv] at d1 ⊢
   rw [er_four (by omega) (by omega), get_eq (s := s) (pos := pos + 1) (by omega), get_eq (s := s) (pos := pos + 1 + 1) (by omega), get_eq (s := s) (pos := pos + 1 + 1 + 1) (by omega), u8_eq (s.get! pos) _ (by omega), u8_eq (s.get! (pos + 1)) _ (by omega), u8_eq (s.get! (pos + 2)) _ (by omega), u8_eq (s.get! (pos + 3)) _ (by omega)]
   rfl
  rw [if_neg d1] at hb
  simp at hb
 rw [if_neg c3] at hb
 simp at hb
theorem enc_valid (s : ByteArray) : ∀ (f pos : Nat), validFrom s f pos = true → s.size ≤ pos + f → enc (rawFrom s f pos) = (bs s).drop pos
 | 0, pos, _, hp => by
  rw [List.drop_of_length_le (by rw [bs_length]; omega)]
  rfl
 | f + 1, pos, hv, hp => by
  rw [validFrom] at hv
  rw [rawFrom]
  by_cases h : pos < s.size
  ·rw [if_pos h] at hv ⊢
   have hw := width_pos s pos h
   unfold width at hw
   cases hb : badAt s pos with
   | true => rw [hb, if_pos rfl] at hv; cases hv
   | false =>
    rw [hb, if_neg (by decide)] at hv
    rw [enc_cons, enc_valid s f _ hv (by omega), ← dec_take s pos h hb]
  rw [if_neg h, List.drop_of_length_le (by rw [bs_length]; omega)]
  rfl
theorem raw_valid {s : ByteArray} (h : valid s = true) : enc (rawFrom s s.size 0) = bs s := by
 rw [enc_valid s s.size 0 h (by omega)]
 rfl
end Go.Proofs.YtihabmcaplnbcaaGreatDoor.Pl
set_option linter.unusedVariables false
set_option linter.unusedSimpArgs false
namespace Go.Proofs.YtihabmcaplnbcaaGreatDoor.Pl
open Go.RowKit Go.Proofs.YtihabmcaplnbcaaGreatDoorW.PrintWords

/-! Layer 19: plain and short; valid stays valid. -/
/-! What is encoded is plain, and its words are short. -/
/-! Valid stays valid. -/
def V (l : Bytes) : Prop := ∃ rs, (∀ r ∈ rs, okR r) ∧ l = enc rs
theorem V_nil : V [] := ⟨[], by simp, rfl⟩
theorem V_app {a b : Bytes} (ha : V a) (hb : V b) : V (a ++ b) := by
 obtain ⟨x, hx, rfl⟩ := ha
 obtain ⟨y, hy, rfl⟩ := hb
 exact ⟨x ++ y, fun r hr => (List.mem_append.1 hr).elim (hx r) (hy r), (enc_app x y).symm⟩
theorem V_of_valid {s : ByteArray} (h : valid s = true) : V (bs s) := ⟨rawFrom s s.size 0, raw_ok s _ _, (raw_valid h).symm⟩
theorem upQ_some : ∀ {l a r : Bytes}, upQ l = some (a, r) → l = a ++ 63 :: r
 | [], a, r, h => by cases h
 | c :: l, a, r, h => by
  rw [upQ] at h
  by_cases hc : c = 63
  ·rw [if_pos hc] at h
   injection h with h
   injection h with h1 h2
   rw [← h1, ← h2, hc]
   rfl
  rw [if_neg hc] at h
  cases hu : upQ l with
  | none => rw [hu] at h; cases h
  | some x =>
   rw [hu] at h
   injection h with h
   injection h with h1 h2
   have := upQ_some (l := l) (a := x.1) (r := x.2) hu
   rw [← h1, ← h2, this]
   rfl
theorem V_ascii : ∀ l : Bytes, asciiL l = true → V l
 | [], _ => V_nil
 | c :: l, h => by
  have h' := h
  unfold asciiL at h
  rw [List.all_cons, Bool.and_eq_true, decide_eq_true_eq] at h
  have e : er c.toNat = [c] := by rw [er_low _ (by omega)]; simp
  exact V_app (a := [c]) ⟨[c.toNat], by simp [okR]; omega, by simp [enc, e]⟩ (V_ascii l h.2)
theorem V_iso : ∀ l : Bytes, V (l.flatMap fun c => er c.toNat)
 | [] => V_nil
 | c :: l => by
  rw [List.flatMap_cons]
  have := c.toNat_lt
  exact V_app ⟨[c.toNat], by simp [okR]; omega, by simp [enc]⟩ (V_iso l)
theorem V_signs {cs s x : Bytes} (h : signsL cs s = some x) : V x := by
 unfold signsL at h
 split at h
 ·split at h
  ·next h1 => injection h with h; rw [← h]; exact V_ascii s h1
  cases h
 split at h
 ·split at h
  ·next h1 =>
   injection h with h
   have := V_of_valid h1
   rw [bs_str] at this
   rw [← h]
   exact this
  cases h
 split at h
 ·injection h with h
  rw [← h]
  exact V_iso s
 cases h
theorem obind_some {α β : Type} {o : Option α} {f : α → Option β} {b : β} (h : o.bind f = some b) : ∃ a, o = some a ∧ f a = some b := by
 cases o with
 | none => cases h
 | some a => exact ⟨a, rfl, h⟩
theorem wordL_some {s x : Bytes} {n : Nat} (h : wordL s = some (x, n)) : V x ∧ (∃ r, s = 61 :: r) ∧ 7 ≤ n ∧ n ≤ 75 ∧ n ≤ s.length ∧ ∃ p, p.length + 1 = n ∧ s = p ++ 61 :: s.drop n := by
 unfold wordL at h
 by_cases h0 : s.take 2 = [61, 63]
 ·rw [if_pos h0] at h
  obtain ⟨⟨a, r1⟩, ha, h⟩ := obind_some h
  obtain ⟨⟨k, r2⟩, hk, h⟩ := obind_some h
  obtain ⟨⟨t, r3⟩, ht, h⟩ := obind_some h
  by_cases h1 : (a ≠ [] ∧ solidL a = true ∧ solidL t = true ∧ r3.take 1 = [61]) ∧ ewN a k t ≤ 75
  ·rw [if_pos h1] at h
   obtain ⟨b, hb, h⟩ := obind_some h
   obtain ⟨y, hy, h⟩ := obind_some h
   injection h with h
   injection h with e1 e2
   have q1 := upQ_some ha
   have q2 := upQ_some hk
   have q3 := upQ_some ht
   simp only [] at q1 q2 q3
   obtain ⟨z, rfl⟩ : ∃ z, r3 = 61 :: z := by
    cases r3 with
    | nil => simp at h1
    | cons c z => have := h1.1.2.2.2; simp at this; exact ⟨z, by rw [this]⟩
   have es : s = (61 :: 63 :: (a ++ 63 :: (k ++ 63 :: (t ++ [63])))) ++ 61 :: z := by
    have : s = s.take 2 ++ s.drop 2 := (List.take_append_drop 2 s).symm
    rw [h0, q1, q2, q3] at this
    rw [this]
    simp
   have hn : n = (61 :: 63 :: (a ++ 63 :: (k ++ 63 :: (t ++ [63])))).length + 1 := by
    rw [← e2]
    unfold ewN
    simp only [List.length_cons, List.length_append, List.length_nil]
    omega
   have hd : s.drop n = z := by
    rw [hn, ← List.drop_drop, es, List.drop_left]
    rfl
   have ha1 : 1 ≤ a.length := by
    cases a with
    | nil => exact absurd rfl h1.1.1
    | cons _ _ => simp
   refine ⟨by rw [← e1]; exact V_signs hy, ⟨_, es⟩, ?_, ?_, ?_, _, hn.symm, ?_⟩
   ·rw [← e2]; unfold ewN; simp only []; omega
   ·rw [← e2]; exact h1.2
   ·have hl := congrArg List.length es
    rw [List.length_append, ← Nat.sub_eq_of_eq_add hn, List.length_cons] at hl
    omega
   rw [hd]; exact es
  rw [if_neg h1] at h; cases h
 rw [if_neg h0] at h; cases h
theorem trimB_len (l : Bytes) : (trimB l).length ≤ l.length := (List.dropWhile_suffix _).length_le
end Go.Proofs.YtihabmcaplnbcaaGreatDoor.Pl
set_option linter.unusedVariables false
set_option linter.unusedSimpArgs false
namespace Go.Proofs.YtihabmcaplnbcaaGreatDoor.Pl
open Go.RowKit Go.Proofs.YtihabmcaplnbcaaGreatDoorW.PrintWords Go.Proofs.YtihabmcaplnbcaaGreatDoor.Fn

/-! Layers 17, 18, 19: the program's small functions compute the plain ones. -/
def digZ (c : UInt8) : Int := match hexD c with | none => -1 | some n => (n : Int)
theorem qpdigit_two (c : UInt8) : qp_digit.f 2 (c.toNat : Int) = some (digZ c) := forall_byte (p := fun c => qp_digit.f 2 (c.toNat : Int) = some (digZ c)) (by decide +kernel) c
theorem qpdigit_is (c : UInt8) (k : Nat) (hk : 2 ≤ k) : qp_digit.f k (c.toNat : Int) = some (digZ c) := mono_up (fun k => qp_digit.mono _ k) (qpdigit_two c) k hk
theorem hexD_lt {c : UInt8} {n : Nat} (h : hexD c = some n) : n < 16 := by
 unfold hexD at h
 split at h
 ·injection h with h; omega
 split at h
 ·injection h with h; omega
 split at h
 ·injection h with h; omega
 cases h
def resH : Option UInt8 → Int × Bool
 | none => (0, false)
 | some x => ((x.toNat : Int), true)
theorem wrap_small {x : Int} (h0 : 0 ≤ x) (h1 : x ≤ 1000000000000) : wrap64 x = x := wrap_id (by omega) (by omega)
theorem qpByte_two (a b : UInt8) (k : Nat) (hk : 3 ≤ k) : qp_Byte.f k (str [a, b]) = some (resH (hexB a b)) := by
 obtain ⟨k, rfl⟩ : ∃ j, k = j + 1 := ⟨k - 1, by omega⟩
 have b0 : bt (str [a, b]) 0 = (a.toNat : Int) := bt_str [a, b] 0 (by simp)
 have b1 : bt (str [a, b]) 1 = (b.toNat : Int) := bt_str [a, b] 1 (by simp)
 have hz : ((str [a, b]).size : Int) = 2 := by rw [str_size]; rfl
 have hj : ∀ t, qp_Byte.j0 (k + 1) (str [a, b]) t = if t = true then some (0, false) else some ((Go.bits .or .i64 (wrap64 (digZ a * 16)) (digZ b)) % 256, true) := by
  intro t
  rw [qp_Byte.j0]
  cases t with
  | true => rfl
  | false =>
   simp only [Bool.false_eq_true, if_false]
   rw [hz, if_pos (by decide), b0, qpdigit_is a k (by omega), Option.bind_some, if_pos (by decide), b1, qpdigit_is b k (by omega)]
   rfl
 unfold qp_Byte.f
 rw [hz, if_pos rfl, if_pos (by decide), b0, qpdigit_is a _ (by omega), Option.bind_some, hj]
 cases ha : hexD a with
 | none =>
  have e : digZ a = -1 := by unfold digZ; rw [ha]
  rw [e, if_pos (by decide), if_pos rfl]
  unfold hexB
  rw [ha]
  rfl
 | some x =>
  have hx := hexD_lt ha
  have e : digZ a = (x : Int) := by unfold digZ; rw [ha]
  rw [e, if_neg (by omega), if_pos (by decide), b1, qpdigit_is b _ (by omega), Option.bind_some, hj, e]
  cases hb : hexD b with
  | none =>
   have e2 : digZ b = -1 := by unfold digZ; rw [hb]
   rw [e2, if_pos (by decide)]
   unfold hexB
   rw [ha, hb]
   rfl
  | some y =>
   have hy := hexD_lt hb
   have e2 : digZ b = (y : Int) := by unfold digZ; rw [hb]
   rw [e2, decide_eq_false (by omega), if_neg (by decide), wrap_small (by omega) (by omega), or_i64 4 _ _ (by omega) (by omega) (by omega) (by omega) (by omega) (by omega)]
   unfold hexB
   rw [ha, hb]
   have e3 : (UInt8.ofNat (16 * x + y)).toNat = 16 * x + y := by simp; omega
   simp only [Option.bind_some, resH, e3]
   congr 2
   omega
theorem qpByte_short (s : ByteArray) (h : s.size ≠ 2) (k : Nat) (hk : 1 ≤ k) : qp_Byte.f k s = some (0, false) := by
 obtain ⟨k, rfl⟩ : ∃ j, k = j + 1 := ⟨k - 1, by omega⟩
 unfold qp_Byte.f
 rw [if_neg (by omega), qp_Byte.j0, if_pos rfl]
def numsB (l : Bytes) : List Int := l.map fun c => (c.toNat : Int)
theorem nums_str (l : Bytes) : strOfNums (numsB l) = str l := by
 apply bs_inj
 rw [bs_str]
 simp [bs, strOfNums, numsB, Function.comp_def]
theorem numsB_len (l : Bytes) : (numsB l).length = l.length := by simp [numsB]
theorem numsB_snoc (l : Bytes) (c : UInt8) : numsB l ++ [(c.toNat : Int)] = numsB (l ++ [c]) := by simp [numsB]
def resQ : Option Bytes → ByteArray × Bool
 | none => (⟨#[]⟩, false)
 | some l => (str l, true)
theorem byte_is (c : UInt8) (n : Nat) (h : n < 256) : ((c.toNat : Int) = (n : Int)) = (c = UInt8.ofNat n) := by
 apply propext
 constructor
 ·intro e
  have e' : c.toNat = n := by omega
  rw [← e']
  simp
 intro e
 rw [e]
 simp
 omega
theorem quoted_l0 (s : ByteArray) (hs : s.size ≤ 1000000000) : ∀ (f : Nat) (rest : Bytes) (i k : Nat) (acc : Bytes), (bs s).drop i = rest → i ≤ s.size → rest.length ≤ f → f + 4 ≤ k → acc.length ≤ i →
  ew_quoted.l0 k s (numsB acc) (i : Int) = some (resQ ((quotedF f rest).map (acc ++ ·)))
 | f, [], i, k, acc, hd, hi, hf, hk, ha => by
  obtain ⟨k, rfl⟩ : ∃ j, k = j + 1 := ⟨k - 1, by omega⟩
  have := drop_nil hd
  rw [bs_length] at this
  rw [ew_quoted.l0, if_neg (by omega), nums_str]
  cases f <;> simp [quotedF, resQ]
 | 0, c :: r, i, k, acc, hd, hi, hf, hk, ha => absurd hf (by simp)
 | f + 1, c :: r, i, k, acc, hd, hi, hf, hk, ha => by
  obtain ⟨k, rfl⟩ : ∃ j, k = j + 1 := ⟨k - 1, by omega⟩
  obtain ⟨h1, h2, h3, h4⟩ := drop_cons hd
  rw [bs_length] at h1
  have hlr : r.length + (i + 1) = s.size := by
   have := congrArg List.length h3
   rw [List.length_drop, bs_length] at this
   omega
  have hfr : r.length ≤ f := by simpa using hf
  rw [ew_quoted.l0, if_pos (by omega), if_pos (by omega), bt_drop hd, quotedF]
  by_cases c1 : c = 95
  ·rw [if_pos (by rw [c1]; rfl), if_pos c1, if_pos (by rw [numsB_len]; omega), wrap_succ i (by omega)]
   have := quoted_l0 s hs f r (i + 1) k (acc ++ [32]) h3 (by omega) hfr (by omega) (by rw [List.length_append, List.length_singleton]; omega)
   rw [← numsB_snoc] at this
   rw [show ((32 : UInt8).toNat : Int) = 32 from rfl] at this
   rw [this, Option.map_map]
   congr 2
   cases quotedF f r <;> simp
  rw [if_neg (by rw [show (95 : Int) = ((95 : Nat) : Int) from rfl, byte_is c 95 (by decide)]; exact c1), if_neg c1]
  by_cases c2 : c = 61
  ·rw [if_pos (by rw [c2]; rfl), if_pos c2, wrap_small (x := (i : Int) + 1) (by omega) (by omega), wrap_small (x := (i : Int) + 3) (by omega) (by omega), if_pos (by omega)]
   by_cases hl : 2 ≤ r.length
   ·obtain ⟨a, b, r', rfl⟩ : ∃ a b r', r = a :: b :: r' := by
     match r, hl with
     | a :: b :: r', _ => exact ⟨a, b, r', rfl⟩
    rw [if_pos hl]
    have hmn : mn ((i : Int) + 3) (s.size : Int) = (i : Int) + 3 := by unfold mn; rw [if_neg (by simp at hlr; omega)]
    have hx : s.extract (i + 1) (i + 3) = str [a, b] := by
     apply bs_inj
     rw [bs_extract, bs_str, List.drop_take, h3, show i + 3 - (i + 1) = 2 by omega]
     rfl
    rw [hmn, if_pos (by omega), if_pos (by simp at hlr; omega), show ((i : Int) + 1).toNat = i + 1 by omega, show ((i : Int) + 3).toNat = i + 3 by omega, hx, qpByte_two a b k (by omega), Option.bind_some]
    simp only [List.getD_cons_zero, List.getD_cons_succ, List.drop_succ_cons, List.drop_zero]
    cases hb : hexB a b with
    | none => rfl
    | some x =>
     simp only [resH, Option.bind_some]
     rw [if_pos trivial, if_pos (by rw [numsB_len]; omega), wrap_small (x := (i : Int) + 2) (by omega) (by omega), wrap_small (x := (i : Int) + 2 + 1) (by omega) (by omega), numsB_snoc]
     have h5 : (bs s).drop (i + 3) = r' := by rw [show i + 3 = (i + 1) + 2 by omega, ← List.drop_drop, h3]; rfl
     have := quoted_l0 s hs f r' (i + 3) k (acc ++ [x]) h5 (by simp at hlr; omega) (by simp at hfr; omega) (by omega) (by rw [List.length_append, List.length_singleton]; omega)
     rw [show (i : Int) + 2 + 1 = ((i + 3 : Nat) : Int) by omega, this, Option.map_map]
     congr 2
     cases quotedF f r' <;> simp
   rw [if_neg hl]
   have hmn : mn ((i : Int) + 3) (s.size : Int) = (s.size : Int) := by unfold mn; rw [if_pos (by omega)]
   rw [hmn, if_pos (by omega), if_pos (by omega), qpByte_short _ (by
    intro e
    have e2 := congrArg List.length (bs_extract s ((i : Int) + 1).toNat ((s.size : Int)).toNat)
    rw [bs_length, e, List.length_drop, List.length_take, bs_length] at e2
    omega) k (by omega), Option.bind_some, if_neg (by decide)]
   rfl
  rw [if_neg (by rw [show (61 : Int) = ((61 : Nat) : Int) from rfl, byte_is c 61 (by decide)]; exact c2), if_neg c2, if_pos (by rw [numsB_len]; omega), wrap_succ i (by omega), numsB_snoc]
  rw [quoted_l0 s hs f r (i + 1) k (acc ++ [c]) h3 (by omega) hfr (by omega) (by rw [List.length_append, List.length_singleton]; omega), Option.map_map]
  congr 2
  cases quotedF f r <;> simp
theorem quoted_is (s : ByteArray) (hs : s.size ≤ 1000000000) (k : Nat) (hk : s.size + 4 ≤ k) : ew_quoted.f k s = some (resQ (quotedL (bs s))) := by
 have := quoted_l0 s hs s.size (bs s) 0 k [] rfl (by omega) (by rw [bs_length]; exact Nat.le_refl _) hk (by simp)
 unfold ew_quoted.f quotedL
 rw [bs_length]
 have e : (quotedF s.size (bs s)).map (([] : Bytes) ++ ·) = quotedF s.size (bs s) := by cases quotedF s.size (bs s) <;> simp
 rw [e] at this
 exact this
theorem solid_l0 (s : ByteArray) (hs : s.size ≤ 1000000000) : ∀ (rest : Bytes) (i k : Nat), (bs s).drop i = rest → rest.length + 1 ≤ k → ew_solid.l0 k s (s.size : Int) (i : Int) = some (solidL rest)
 | [], i, k, hd, hk => by
  obtain ⟨k, rfl⟩ : ∃ j, k = j + 1 := ⟨k - 1, by omega⟩
  have := drop_nil hd
  rw [bs_length] at this
  rw [ew_solid.l0, if_neg (by omega)]
  rfl
 | c :: r, i, k, hd, hk => by
  obtain ⟨k, rfl⟩ : ∃ j, k = j + 1 := ⟨k - 1, by omega⟩
  obtain ⟨h1, h2, h3, h4⟩ := drop_cons hd
  rw [bs_length] at h1
  rw [ew_solid.l0, if_pos (by omega), if_pos (by omega), if_pos (by omega), bt_drop hd]
  show _ = some ((decide (33 ≤ c.toNat) && decide (c.toNat ≤ 126)) && solidL r)
  by_cases c1 : (c.toNat : Int) ≤ 32
  ·rw [if_pos c1, decide_eq_false (by omega)]
   rfl
  rw [if_neg c1, decide_eq_true (by omega)]
  by_cases c2 : (c.toNat : Int) > 126
  ·rw [if_pos c2, decide_eq_false (by omega)]
   rfl
  rw [if_neg c2, decide_eq_true (by omega), wrap_succ i (by omega), solid_l0 s hs r (i + 1) k h3 (by simp at hk; omega)]
  rfl
theorem solid_is (s : ByteArray) (hs : s.size ≤ 1000000000) (k : Nat) (hk : s.size + 1 ≤ k) : ew_solid.f k s = some (solidL (bs s)) :=
 solid_l0 s hs (bs s) 0 k rfl (by rw [bs_length]; exact hk)
theorem white_is (c : UInt8) : b64_white.f (c.toNat : Int) = some (whiteC c) := forall_byte (p := fun c => b64_white.f (c.toNat : Int) = some (whiteC c)) (by decide +kernel) c
theorem bare_l0 (s : ByteArray) (hs : s.size ≤ 1000000000) : ∀ (rest : Bytes) (i k : Nat) (acc : Bytes), (bs s).drop i = rest → rest.length + 1 ≤ k → acc.length ≤ i → b64_bare.l0 k s (numsB acc) (s.size : Int) (i : Int) = some (str (acc ++ bareL rest))
 | [], i, k, acc, hd, hk, ha => by
  obtain ⟨k, rfl⟩ : ∃ j, k = j + 1 := ⟨k - 1, by omega⟩
  have := drop_nil hd
  rw [bs_length] at this
  rw [b64_bare.l0, if_neg (by omega), nums_str]
  simp [bareL]
 | c :: r, i, k, acc, hd, hk, ha => by
  obtain ⟨k, rfl⟩ : ∃ j, k = j + 1 := ⟨k - 1, by omega⟩
  obtain ⟨h1, h2, h3, h4⟩ := drop_cons hd
  rw [bs_length] at h1
  rw [b64_bare.l0, if_pos (by omega), if_pos (by omega), if_pos (by omega), bt_drop hd, white_is, Option.bind_some]
  cases hw : whiteC c with
  | true =>
   rw [if_pos rfl, wrap_succ i (by omega), bare_l0 s hs r (i + 1) k acc h3 (by simp at hk; omega) (by omega)]
   simp [bareL, hw]
  | false =>
   rw [if_neg (by decide), if_pos (by rw [numsB_len]; omega), wrap_succ i (by omega), numsB_snoc, bare_l0 s hs r (i + 1) k (acc ++ [c]) h3 (by simp at hk; omega) (by rw [List.length_append, List.length_singleton]; omega)]
   simp [bareL, hw]
theorem bare_is (s : ByteArray) (hs : s.size ≤ 1000000000) (k : Nat) (hk : s.size + 1 ≤ k) : b64_bare.f k s = some (str (bareL (bs s))) :=
 bare_l0 s hs (bs s) 0 k [] rfl (by rw [bs_length]; exact hk) (by simp)
end Go.Proofs.YtihabmcaplnbcaaGreatDoor.Pl
set_option linter.unusedVariables false
set_option linter.unusedSimpArgs false
namespace Go.Proofs.YtihabmcaplnbcaaGreatDoor.Pl
open Go.RowKit Go.Proofs.YtihabmcaplnbcaaGreatDoorW.PrintWords Go.Proofs.YtihabmcaplnbcaaGreatDoor.Fn

/-! Layers 18, 19: the program's Decode of letters, and its words. -/
def b64Z (c : UInt8) : Int := match b64V c with | none => -1 | some n => (n : Int)
theorem index_is (c : UInt8) : strings_IndexByte.f (⟨#[65, 66, 67, 68, 69, 70, 71, 72, 73, 74, 75, 76, 77, 78, 79, 80, 81, 82, 83, 84, 85, 86, 87, 88, 89, 90, 97, 98, 99, 100, 101, 102, 103, 104, 105, 106, 107, 108, 109, 110, 111, 112, 113, 114, 115, 116, 117, 118, 119, 120, 121, 122, 48, 49, 50, 51, 52, 53, 54, 55, 56, 57, 43, 47]⟩ : ByteArray) (c.toNat : Int) = some (b64Z c) :=
 forall_byte (p := fun c => strings_IndexByte.f (⟨#[65, 66, 67, 68, 69, 70, 71, 72, 73, 74, 75, 76, 77, 78, 79, 80, 81, 82, 83, 84, 85, 86, 87, 88, 89, 90, 97, 98, 99, 100, 101, 102, 103, 104, 105, 106, 107, 108, 109, 110, 111, 112, 113, 114, 115, 116, 117, 118, 119, 120, 121, 122, 48, 49, 50, 51, 52, 53, 54, 55, 56, 57, 43, 47]⟩ : ByteArray) (c.toNat : Int) = some (b64Z c)) (by decide +kernel) c
theorem b64V_lt {c : UInt8} {n : Nat} (h : b64V c = some n) : n < 64 := by
 have := forall_byte (p := fun c => ∀ n, b64V c = some n → n < 64) (by decide +kernel) c
 exact this n h
def resC (B : Bytes) : Option Bytes → ByteArray × Int
 | none => (⟨#[]⟩, 3)
 | some b => if b64P b = B then (str b, 0) else (⟨#[]⟩, 3)
theorem b64_step (h m v : Nat) (hm : m ≤ 6) (hh : v < 2 ^ (m + 8)) : shr .i64 (v : Int) (m : Int) % 256 = ((UInt8.ofNat (v / 2 ^ m)).toNat : Int) ∧ Go.bits .and .i64 (v : Int) (wrap64 ((shl .i64 1 (m : Int)) - 1)) = ((v % 2 ^ m : Nat) : Int) := by
 have hp : 2 ^ m ≤ 64 := Nat.pow_le_pow_right (n := 2) (by decide) hm
 have h8 : 2 ^ (m + 8) = 2 ^ m * 256 := by rw [Nat.pow_add]
 have h0 : 0 < 2 ^ m := Nat.two_pow_pos m
 have hpz : ((2 : Int) ^ m) = ((2 ^ m : Nat) : Int) := by simp
 have hb : min ((m : Int)).toNat IntKind.i64.bits = m := by
  rw [Int.toNat_natCast]
  exact Nat.min_eq_left (Nat.le_trans hm (by decide))
 have hv : v / 2 ^ m < 256 := Nat.div_lt_of_lt_mul (by rw [← h8]; exact hh)
 refine ⟨?_, ?_⟩
 ·unfold shr
  rw [hb, hpz]
  have e : (UInt8.ofNat (v / 2 ^ m)).toNat = v / 2 ^ m := by simp; omega
  rw [e]
  omega
 have e : wrap64 ((shl .i64 1 (m : Int)) - 1) = 2 ^ m - 1 := by
  unfold shl
  rw [hb, hpz, Int.one_mul, i64_small _ (by omega) (by omega), wrap_small (by omega) (by omega)]
 have hv2 : v < 16384 := by omega
 rw [e, and_i64 m _ (by omega) (by omega) (by omega)]
 simp
theorem b64_l0 (B : ByteArray) (hs : B.size ≤ 1000000000) (m : Nat) (hm : m ≤ B.size) : ∀ (rest : Bytes) (i k h n : Nat) (acc : Bytes), ((bs B).take m).drop i = rest → rest.length + 1 ≤ k → acc.length ≤ i → i ≤ m → (n = 0 ∨ n = 2 ∨ n = 4 ∨ n = 6) → h < 2 ^ n →
  b64_Decode.l0 k B (numsB acc) (h : Int) (n : Int) (m : Int) (i : Int) = some (resC (bs B) (b64D rest h n acc))
 | [], i, k, h, n, acc, hd, hk, ha, him, hn, hh => by
  obtain ⟨k, rfl⟩ : ∃ j, k = j + 1 := ⟨k - 1, by omega⟩
  have := drop_nil hd
  rw [List.length_take, bs_length] at this
  have hp : b64_Plain.f (str acc) = some (str (b64P acc)) := by
   unfold b64_Plain.f
   rw [if_pos (by rw [str_size]; omega), bs_str]
  rw [b64_Decode.l0, if_neg (by omega), nums_str, hp, Option.bind_some, toList_str, toList_bs, b64D]
  unfold resC
  simp only []
  split <;> rfl
 | c :: r, i, k, h, n, acc, hd, hk, ha, him, hn, hh => by
  obtain ⟨k, rfl⟩ : ∃ j, k = j + 1 := ⟨k - 1, by omega⟩
  obtain ⟨h1, h2, h3, h4⟩ := drop_cons hd
  rw [List.length_take, bs_length] at h1
  have hb : (bs B).drop i = c :: (bs B).drop (i + 1) := by
   have hi2 : i < (bs B).length := by rw [bs_length]; omega
   rw [List.drop_eq_getElem_cons hi2]
   congr 1
   rw [List.getElem?_take, if_pos (by omega), List.getElem?_eq_getElem hi2] at h2
   exact Option.some.inj h2
  rw [b64_Decode.l0, if_pos (by omega), if_pos (by omega), if_pos (by omega), bt_drop hb, index_is, Option.bind_some, b64D]
  cases hv : b64V c with
  | none =>
   have e : b64Z c = -1 := by unfold b64Z; rw [hv]
   rw [e, if_pos (by decide)]
   rfl
  | some q =>
   have hq := b64V_lt hv
   have e : b64Z c = (q : Int) := by unfold b64Z; rw [hv]
   have hh6 : h < 64 := Nat.lt_of_lt_of_le hh (by
    have := Nat.pow_le_pow_right (n := 2) (by decide) (show n ≤ 6 by omega)
    exact this)
   have hq0 : ¬ (q : Int) < 0 := by omega
   have hn6 : wrap64 ((n : Int) + 6) = (n : Int) + 6 := wrap_small (by omega) (by omega)
   have hor : Go.bits .or .i64 (wrap64 ((h : Int) * 64)) (q : Int) = ((h * 64 + q : Nat) : Int) := by
    rw [wrap_small (by omega) (by omega), or_i64 6 _ _ (by omega) (by omega) (by omega) (by omega) (by omega) (by omega)]
    omega
   rw [e, if_neg hq0, hor, hn6, Option.bind_some]
   clear hor hn6
   rcases hn with hn | hn
   ·subst hn
    obtain rfl : h = 0 := by simpa using hh
    rw [if_neg (by omega), if_neg (by omega), wrap_succ i (by omega)]
    have := b64_l0 B hs m hm r (i + 1) k (0 * 64 + q) 6 acc h3 (by simp at hk; omega) (by omega) (by omega) (by omega) (by omega)
    simpa using this
   have hn2 : 2 ≤ n ∧ n ≤ 6 := by omega
   have hlt : h * 64 + q < 2 ^ (n - 2 + 8) := by
    have e1 : 2 ^ (n - 2 + 8) = 2 ^ n * 64 := by rw [show n - 2 + 8 = n + 6 by omega, Nat.pow_add]
    rw [e1]
    omega
   have q1 : (n : Int) + 6 ≥ 8 := by omega
   have q2 : 8 ≤ n + 6 := by omega
   have q3 : (0 : Int) ≤ ((n - 2 : Nat) : Int) := by omega
   have q4 : (numsB acc).length < 140737488355328 := by rw [numsB_len]; omega
   have hs1 := (b64_step h (n - 2) (h * 64 + q) (by omega) hlt).1
   have hs2 := (b64_step h (n - 2) (h * 64 + q) (by omega) hlt).2
   have hw : wrap64 ((n : Int) + 6 - 8) = ((n - 2 : Nat) : Int) := by rw [wrap_small (by omega) (by omega)]; omega
   rw [if_pos q1, if_pos q2, hw, if_pos q3, if_pos q4, hs1, hs2, wrap_succ i (by omega), numsB_snoc]
   exact b64_l0 B hs m hm r (i + 1) k _ (n - 2) _ h3 (by simp at hk; omega) (by rw [List.length_append, List.length_singleton]; omega) (by omega) (by omega) (Nat.mod_lt _ (Nat.two_pow_pos _))
def resD : Option Bytes → ByteArray × Int
 | none => (⟨#[]⟩, 3)
 | some b => (str b, 0)
theorem trimR_prefix (l cs : Bytes) : Lib.trimRightS l cs = l.take (Lib.trimRightS l cs).length := by
 apply List.prefix_iff_eq_take.1
 unfold Lib.trimRightS
 have := List.reverse_prefix.2 (List.dropWhile_suffix (l := l.reverse) (cs.contains ·))
 rwa [List.reverse_reverse] at this
theorem b64Decode_is (s : ByteArray) (hs : s.size ≤ 1000000000) (k : Nat) (hk : s.size + 2 ≤ k) : b64_Decode.f k s = some (resD (b64L (bs s))) := by
 have hl : (bareL (bs s)).length ≤ s.size := by
  rw [← bs_length s]
  exact List.length_filter_le _ _
 have hz : (str (bareL (bs s))).size ≤ s.size := by rw [str_size]; exact hl
 have ht : strings_TrimRight.f (str (bareL (bs s))) ⟨#[61]⟩ = some (str (Lib.trimRightS (bareL (bs s)) [61])) := by
  unfold strings_TrimRight.f
  rw [if_pos (by omega), if_pos (by decide), if_pos (by decide)]
  show some (str (Lib.trimRightS (bs (str (bareL (bs s)))) [61])) = _
  rw [bs_str]
 have hle : (Lib.trimRightS (bareL (bs s)) [61]).length ≤ (bareL (bs s)).length := by
  rw [trimR_prefix, List.length_take]
  omega
 unfold b64_Decode.f
 rw [bare_is s hs k (by omega), Option.bind_some, ht, Option.bind_some, str_size]
 have := b64_l0 (str (bareL (bs s))) (by omega) (Lib.trimRightS (bareL (bs s)) [61]).length (by rw [str_size]; exact hle) (Lib.trimRightS (bareL (bs s)) [61]) 0 k 0 0 [] (by rw [bs_str, List.drop_zero, ← trimR_prefix]) (by omega) (by simp) (by omega) (by omega) (by decide)
 rw [show ([] : List Int) = numsB [] from rfl]
 refine this.trans ?_
 unfold b64L
 rw [bs_str]
 cases b64D (Lib.trimRightS (bareL (bs s)) [61]) 0 0 [] with
 | none => rfl
 | some b =>
  simp only [resC, Option.bind_some]
  split <;> rfl
theorem octets_is (a0 a1 : ByteArray) (hs : a1.size ≤ 1000000000) (k : Nat) (hk : a1.size + 5 ≤ k) : ew_octets.f k a0 a1 = some (resQ (octL (bs a0) (bs a1))) := by
 obtain ⟨k, rfl⟩ : ∃ j, k = j + 1 := ⟨k - 1, by omega⟩
 have hq := quoted_is a1 hs k (by omega)
 have hd := b64Decode_is a1 hs k (by omega)
 have hr : ∀ o : Option Bytes, ((resD o).1, (resD o).2 == 0) = resQ o := by
  intro o
  cases o <;> rfl
 unfold ew_octets.f octL
 rw [toList_bs]
 have hj : ∀ t, ew_octets.j0 (k + 1) a1 a0 t = if t = true then some (resQ (quotedL (bs a1))) else if bs a0 = [98] then some (resQ (b64L (bs a1))) else if bs a0 = [66] then some (resQ (b64L (bs a1))) else some (⟨#[]⟩, false) := by
  intro t
  rw [ew_octets.j0, hq, hd, toList_bs]
  simp only [Option.bind_some, hr]
 by_cases h1 : bs a0 = [113]
 ·rw [if_pos h1, if_pos (.inl h1), hj, beq_iff_eq.2 h1, if_pos rfl]
 rw [if_neg h1, hj]
 by_cases h2 : bs a0 = [81]
 ·rw [beq_iff_eq.2 h2, if_pos rfl, if_pos (.inr h2)]
 have h12 : ¬ (bs a0 = [113] ∨ bs a0 = [81]) := fun h => h.elim h1 h2
 rw [beq_eq_false_iff_ne.2 h2]
 simp only [Bool.false_eq_true, if_false]
 rw [if_neg h12]
 by_cases h3 : bs a0 = [98]
 ·rw [if_pos h3, if_pos (.inl h3)]
 rw [if_neg h3]
 by_cases h4 : bs a0 = [66]
 ·rw [if_pos h4, if_pos (.inr h4)]
 have h34 : ¬ (bs a0 = [98] ∨ bs a0 = [66]) := fun h => h.elim h3 h4
 rw [if_neg h4, if_neg h34]
 rfl
/-! Cut at the question marks. -/
theorem upQ_index : ∀ l : Bytes, (upQ l = none ∧ Lib.indexByte l 63 = -1) ∨ (∃ i : Nat, Lib.indexByte l 63 = i ∧ i < l.length ∧ upQ l = some (l.take i, l.drop (i + 1)))
 | [] => .inl ⟨rfl, rfl⟩
 | c :: l => by
  by_cases hc : c = 63
  ·exact .inr ⟨0, by rw [Lib.indexByte, if_pos (beq_iff_eq.2 hc)]; rfl, by simp, by rw [upQ, if_pos hc]; rfl⟩
  have hc' : ¬ (c == 63) = true := fun h => hc (beq_iff_eq.1 h)
  rcases upQ_index l with ⟨h1, h2⟩ | ⟨i, h1, h2, h3⟩
  ·exact .inl ⟨by rw [upQ, if_neg hc, h1]; rfl, by rw [Lib.indexByte, if_neg hc', if_pos (by rw [h2]; rfl), ]⟩
  refine .inr ⟨i + 1, ?_, by simp; omega, by rw [upQ, if_neg hc, h3]; rfl⟩
  rw [Lib.indexByte, if_neg hc', if_neg (by rw [h1, beq_iff_eq]; omega), h1]
  omega
def spL : Nat → Bytes → List Bytes
 | 0, l => [l]
 | n + 1, l => match upQ l with | none => [l] | some x => x.1 :: spL n x.2
theorem split_is : ∀ (n : Nat) (s : ByteArray), Lib.splitB ⟨#[63]⟩ 0 n s = (spL n (bs s)).map str
 | 0, s => by rw [Lib.splitB_zero, spL, List.map_singleton, str_bs]
 | n + 1, s => by
  have e : Lib.indexB s ⟨#[63]⟩ = Lib.indexByte (bs s) 63 := Lib.index_one (bs s) 63
  rcases upQ_index (bs s) with ⟨h1, h2⟩ | ⟨i, h1, h2, h3⟩
  ·rw [Lib.splitB_miss _ _ _ _ (e.trans h2), spL, h1, List.map_singleton, str_bs]
  rw [Lib.splitB_hit _ _ _ _ i (e.trans h1), spL, h3, split_is n]
  simp only [List.map_cons]
  congr 1
  ·apply bs_inj
   rw [bs_extract, bs_str, List.drop_zero, Nat.add_zero]
  rw [bs_extract, List.take_of_length_le (by rw [bs_length]; exact Nat.le_refl _)]
  rfl
theorem spL_len : ∀ (n : Nat) (l : Bytes), (spL n l).length ≤ n + 1
 | 0, l => Nat.le_refl _
 | n + 1, l => by
  rw [spL]
  cases upQ l with
  | none => simp
  | some x =>
   have := spL_len n x.2
   simp only [List.length_cons]
   omega
def resW : Option (Bytes × Nat) → ByteArray × Int
 | none => (⟨#[]⟩, 0)
 | some x => (str x.1, (x.2 : Int))
theorem sp_four (l : Bytes) : ((spL 3 l).length < 4 ∧ (upQ l).bind (fun a => (upQ a.2).bind fun k => upQ k.2) = none) ∨ (∃ a k t, upQ l = some a ∧ upQ a.2 = some k ∧ upQ k.2 = some t ∧ spL 3 l = [a.1, k.1, t.1, t.2]) := by
 cases h1 : upQ l with
 | none => exact .inl ⟨by simp [spL, h1], rfl⟩
 | some a =>
  cases h2 : upQ a.2 with
  | none => exact .inl ⟨by simp [spL, h1, h2], by simp [h2]⟩
  | some k =>
   cases h3 : upQ k.2 with
   | none => exact .inl ⟨by simp [spL, h1, h2, h3], by simp [h2, h3]⟩
   | some t => exact .inr ⟨a, k, t, rfl, h2, h3, by simp [spL, h1, h2, h3]⟩
theorem sp_few (n : Nat) (hn : n ≤ 2) (l : Bytes) (hl : l.length ≤ n) : (spL n l).length < 4 ∧ (upQ l).bind (fun a => (upQ a.2).bind fun k => upQ k.2) = none := by
 refine ⟨by have := spL_len n l; omega, ?_⟩
 cases h1 : upQ l with
 | none => rfl
 | some a =>
  have e1 := congrArg List.length (upQ_some h1)
  simp only [List.length_append, List.length_cons] at e1
  simp only [Option.bind_some]
  cases h2 : upQ a.2 with
  | none => rfl
  | some k =>
   have e2 := congrArg List.length (upQ_some h2)
   simp only [List.length_append, List.length_cons] at e2
   simp only [Option.bind_some]
   cases h3 : upQ k.2 with
   | none => rfl
   | some t =>
    have e3 := congrArg List.length (upQ_some h3)
    simp only [List.length_append, List.length_cons] at e3
    omega
end Go.Proofs.YtihabmcaplnbcaaGreatDoor.Pl
set_option linter.unusedVariables false
set_option linter.unusedSimpArgs false
namespace Go.Proofs.YtihabmcaplnbcaaGreatDoor.Pl
open Go.RowKit Go.Proofs.YtihabmcaplnbcaaGreatDoorW.PrintWords Go.Proofs.YtihabmcaplnbcaaGreatDoor.Fn

/-! Layer 19: the program's word. -/
theorem prefix2_is (s : ByteArray) (c d : UInt8) : stringslite_HasPrefix.f s ⟨#[c, d]⟩ = some ((bs s).take 2 == [c, d]) := by
 unfold stringslite_HasPrefix.f
 have hz : ((⟨#[c, d]⟩ : ByteArray).size : Int) = 2 := rfl
 rw [hz]
 by_cases h : (s.size : Int) ≥ 2
 ·rw [if_pos h, if_pos (by decide), if_pos (by omega), toList_bs, bs_extract, List.drop_zero, toList_bs]
  rfl
 rw [if_neg h]
 congr 1
 rw [eq_comm, beq_eq_false_iff_ne]
 intro e
 have := congrArg List.length e
 rw [List.length_take, bs_length] at this
 simp at this
 omega
theorem prefix1_is (s : ByteArray) (c : UInt8) : strings_HasPrefix.f s ⟨#[c]⟩ = some ((bs s).take 1 == [c]) := by
 unfold strings_HasPrefix.f stringslite_HasPrefix.f
 have hz : ((⟨#[c]⟩ : ByteArray).size : Int) = 1 := rfl
 rw [hz]
 by_cases h : (s.size : Int) ≥ 1
 ·rw [if_pos h, if_pos (by decide), if_pos (by omega), toList_bs, bs_extract, List.drop_zero, toList_bs]
  rfl
 rw [if_neg h, Option.bind_some]
 congr 1
 rw [eq_comm, beq_eq_false_iff_ne]
 intro e
 have := congrArg List.length e
 rw [List.length_take, bs_length] at this
 simp at this
 omega
theorem cutprefix_is (s : ByteArray) : strings_CutPrefix.f s ⟨#[61, 63]⟩ = some (if (bs s).take 2 = [61, 63] then (str ((bs s).drop 2), true) else (s, false)) := by
 unfold strings_CutPrefix.f stringslite_CutPrefix.f
 rw [prefix2_is, Option.bind_some]
 by_cases h : (bs s).take 2 = [61, 63]
 ·have hl : 2 ≤ s.size := by
   have := congrArg List.length h
   rw [List.length_take, bs_length] at this
   simp at this
   omega
  have hz : ((⟨#[61, 63]⟩ : ByteArray).size : Int) = 2 := rfl
  rw [if_pos (beq_iff_eq.2 h), hz, if_pos (by decide), if_pos (by omega), if_pos h, Option.bind_some]
  congr 2
  apply bs_inj
  rw [bs_extract, bs_str, List.take_of_length_le (by rw [bs_length]; exact Nat.le_refl _)]
  rfl
 rw [if_neg (by rw [beq_iff_eq]; exact h), if_neg h, Option.bind_some]
theorem signsR_some {a b : ByteArray} {x : Bytes} (h : signsL (bs a) (bs b) = some x) : signsR a b = (str x, true) := by
 unfold signsL at h
 unfold signsR
 split at h
 ·next h1 =>
  rw [if_pos h1]
  split at h
  ·next h2 =>
   injection h with h
   rw [if_pos h2, ← h, str_bs]
  cases h
 next h1 =>
 rw [if_neg h1]
 split at h
 ·next h3 =>
  rw [if_pos h3]
  split at h
  ·next h4 =>
   injection h with h
   rw [str_bs] at h4
   rw [h4, ← h, str_bs]
  cases h
 next h3 =>
 rw [if_neg h3]
 split at h
 ·next h5 =>
  injection h with h
  rw [if_pos h5, ← h]
 cases h
theorem signsR_none {a b : ByteArray} (h : signsL (bs a) (bs b) = none) : (signsR a b).2 = false := by
 unfold signsL at h
 unfold signsR
 split at h
 ·next h1 =>
  rw [if_pos h1]
  split at h
  ·cases h
  next h2 => rw [if_neg h2]
 next h1 =>
 rw [if_neg h1]
 split at h
 ·next h3 =>
  rw [if_pos h3]
  split at h
  ·cases h
  next h4 =>
  rw [str_bs] at h4
  simpa using h4
 next h3 =>
 rw [if_neg h3]
 split at h
 ·cases h
 next h5 => rw [if_neg h5]
theorem word_j1 (k : Nat) (a b : ByteArray) (P : List ByteArray) (n : Int) (t : Bool) (hP : P[0]? = some a) (ha : a.size ≤ 1000000000) (hb : b.size ≤ 1000000000) :
  ew_word.j1 (k + 1) P n b t = some (if t = true then (⟨#[]⟩, 0) else match signsL (bs a) (bs b) with | none => (⟨#[]⟩, 0) | some x => (str x, n)) := by
 rw [ew_word.j1]
 cases t with
 | true => rfl
 | false =>
  have hr : rdOf ByteArray.empty P 0 = a := by
   unfold rdOf
   simp [hP]
  have hl : 0 < (P.length : Int) := by
   rcases P with _ | ⟨p, P⟩
   ·cases hP
   simp
  have hs : ew_signs.f a b = some (signsR a b) := by unfold ew_signs.f; rw [if_pos ⟨ha, hb⟩]
  simp only [Bool.false_eq_true, if_false]
  rw [if_pos hl, hr, hs, Option.bind_some]
  cases hx : signsL (bs a) (bs b) with
  | none => rw [signsR_none hx]; rfl
  | some x => rw [signsR_some hx]; rfl
theorem quotedF_len : ∀ (f : Nat) (l x : Bytes), quotedF f l = some x → x.length ≤ l.length
 | 0, l, x, h => by injection h with h; rw [← h]; simp
 | _ + 1, [], x, h => by injection h with h; rw [← h]; simp
 | f + 1, c :: r, x, h => by
  rw [quotedF] at h
  split at h
  ·obtain ⟨y, hy, e⟩ := Option.map_eq_some_iff.1 h
   have := quotedF_len f r y hy
   rw [← e]; simp; omega
  split at h
  ·split at h
   ·obtain ⟨z, hz, h⟩ := obind_some h
    obtain ⟨y, hy, e⟩ := Option.map_eq_some_iff.1 h
    have := quotedF_len f _ y hy
    rw [List.length_drop] at this
    rw [← e]; simp; omega
   cases h
  obtain ⟨y, hy, e⟩ := Option.map_eq_some_iff.1 h
  have := quotedF_len f r y hy
  rw [← e]; simp; omega
theorem b64D_len : ∀ (l : Bytes) (h n : Nat) (acc x : Bytes), b64D l h n acc = some x → x.length ≤ acc.length + l.length
 | [], h, n, acc, x, e => by injection e with e; rw [← e]; simp
 | c :: r, h, n, acc, x, e => by
  rw [b64D] at e
  obtain ⟨k, _, e⟩ := obind_some e
  split at e
  ·have := b64D_len r _ _ _ x e
   simp at this ⊢
   omega
  have := b64D_len r _ _ _ x e
  simp at this ⊢
  omega
theorem octL_len {k l x : Bytes} (h : octL k l = some x) : x.length ≤ l.length := by
 unfold octL at h
 split at h
 ·exact quotedF_len _ _ _ h
 split at h
 ·obtain ⟨y, hy, h⟩ := obind_some h
  have h1 := b64D_len _ _ _ _ _ hy
  have h2 : (Lib.trimRightS (bareL l) [61]).length ≤ (bareL l).length := by
   rw [trimR_prefix, List.length_take]
   omega
  have h3 : (bareL l).length ≤ l.length := List.length_filter_le _ _
  split at h
  ·injection h with h
   rw [← h]
   simp at h1
   omega
  cases h
 cases h
theorem word_j0 (k : Nat) (a q t z : Bytes) (b : Bool) (ha : a.length ≤ 1000000000) (hq : q.length ≤ 1000000000) (ht : t.length ≤ 1000000000) (hk : t.length + 10 ≤ k) :
  ew_word.j0 k [str a, str q, str t, str z] b = some (if b = true then (⟨#[]⟩, 0) else if ewN a q t ≤ 75 then resW ((octL q t).bind fun o => (signsL a o).bind fun x => some (x, ewN a q t)) else (⟨#[]⟩, 0)) := by
 obtain ⟨k, rfl⟩ : ∃ j, k = j + 1 + 1 := ⟨k - 2, by omega⟩
 rw [ew_word.j0]
 cases b with
 | true => rfl
 | false =>
  simp only [Bool.false_eq_true, if_false]
  have r0 : rdOf ByteArray.empty [str a, str q, str t, str z] 0 = str a := rfl
  have r1 : rdOf ByteArray.empty [str a, str q, str t, str z] 1 = str q := rfl
  have r2 : rdOf ByteArray.empty [str a, str q, str t, str z] 2 = str t := rfl
  have ho := octets_is (str q) (str t) (by rw [str_size]; exact ht) (k + 1) (by rw [str_size]; omega)
  rw [bs_str, bs_str] at ho
  have hn : wrap64 (wrap64 (wrap64 (wrap64 (wrap64 (wrap64 (2 + ((str a).size : Int)) + 1) + ((str q).size : Int)) + 1) + ((str t).size : Int)) + 2) = (ewN a q t : Int) := by
   rw [str_size, str_size, str_size]
   unfold ewN
   rw [wrap_small (x := 2 + (a.length : Int)) (by omega) (by omega), wrap_small (x := 2 + (a.length : Int) + 1) (by omega) (by omega), wrap_small (x := 2 + (a.length : Int) + 1 + (q.length : Int)) (by omega) (by omega), wrap_small (x := 2 + (a.length : Int) + 1 + (q.length : Int) + 1) (by omega) (by omega), wrap_small (x := 2 + (a.length : Int) + 1 + (q.length : Int) + 1 + (t.length : Int)) (by omega) (by omega), wrap_small (x := 2 + (a.length : Int) + 1 + (q.length : Int) + 1 + (t.length : Int) + 2) (by omega) (by omega)]
   omega
  rw [if_pos (by simp), if_pos (by simp), if_pos (by simp), r0, r1, r2, ho, Option.bind_some, hn]
  have hbz : (resQ (octL q t)).1.size ≤ 1000000000 := by
   cases hx : octL q t with
   | none => exact Nat.zero_le _
   | some x =>
    have := octL_len hx
    show (str x).size ≤ _
    rw [str_size]
    omega
  rw [word_j1 k (str a) _ _ _ _ rfl (by rw [str_size]; exact ha) hbz, word_j1 k (str a) _ _ _ _ rfl (by rw [str_size]; exact ha) hbz, bs_str]
  by_cases h75 : ewN a q t ≤ 75
  ·rw [if_neg (by omega), if_pos h75]
   cases hx : octL q t with
   | none => rfl
   | some o =>
    simp only [resQ, Bool.not_true, Bool.false_eq_true, if_false, bs_str, Option.bind_some]
    cases signsL a o <;> rfl
  rw [if_pos (by omega), if_neg h75]
  rfl
theorem word_is (s : ByteArray) (hs : s.size ≤ 1000000000) (k : Nat) (hk : s.size + 10 ≤ k) : ew_word.f k s = some (resW (wordL (bs s))) := by
 unfold ew_word.f wordL
 rw [cutprefix_is, Option.bind_some]
 by_cases h0 : (bs s).take 2 = [61, 63]
 ·rw [if_pos h0, if_pos h0]
  simp only [if_true]
  obtain ⟨l, hl⟩ : ∃ l, (bs s).drop 2 = l := ⟨_, rfl⟩
  have hlen : l.length + 2 ≤ s.size := by
   have h1 := congrArg List.length h0
   rw [List.length_take, bs_length] at h1
   rw [← hl, List.length_drop, bs_length]
   simp at h1
   omega
  rw [hl]
  have hsp : strings_SplitN.f (str l) ⟨#[63]⟩ 4 = some ((spL (min 4 (l.length + 1) - 1) l).map str) := by
   unfold strings_SplitN.f
   rw [str_size, if_pos (by omega), if_pos (by decide), if_pos (by decide), split_is, bs_str]
   rfl
  rw [hsp, Option.bind_some]
  have hno : ∀ P : List ByteArray, P.length < 4 → (upQ l).bind (fun a => (upQ a.2).bind fun k => upQ k.2) = none →
    (if (P.length : Int) < 4 then ew_word.j0 k P true else none) = some (resW ((upQ l).bind fun a => (upQ a.2).bind fun k => (upQ k.2).bind fun t =>
   if (a.1 ≠ [] ∧ solidL a.1 = true ∧ solidL t.1 = true ∧ t.2.take 1 = [61]) ∧ ewN a.1 k.1 t.1 ≤ 75 then
    (octL k.1 t.1).bind fun b => (signsL a.1 b).bind fun x => some (x, ewN a.1 k.1 t.1) else none)) := by
   intro P hP hn
   obtain ⟨k, rfl⟩ : ∃ j, k = j + 1 := ⟨k - 1, by omega⟩
   rw [if_pos (by omega), ew_word.j0, if_pos rfl]
   cases h1 : upQ l with
   | none => rfl
   | some a =>
    cases h2 : upQ a.2 with
    | none => simp [h2, resW]
    | some q =>
     cases h3 : upQ q.2 with
     | none => simp [h2, h3, resW]
     | some t => rw [h1] at hn; simp [h2, h3] at hn
  by_cases hsm : l.length ≤ 2
  ·rw [show min 4 (l.length + 1) - 1 = l.length by omega]
   obtain ⟨h1, h2⟩ := sp_few l.length hsm l (Nat.le_refl _)
   have h3 := hno ((spL l.length l).map str) (by rw [List.length_map]; exact h1) h2
   rw [if_pos (by rw [List.length_map]; omega)] at h3 ⊢
   exact h3
  rw [show min 4 (l.length + 1) - 1 = 3 by omega]
  rcases sp_four l with ⟨h1, h2⟩ | ⟨a, q, t, h1, h2, h3, h4⟩
  ·have h3 := hno ((spL 3 l).map str) (by rw [List.length_map]; exact h1) h2
   rw [if_pos (by rw [List.length_map]; omega)] at h3 ⊢
   exact h3
  have e1 := congrArg List.length (upQ_some h1)
  have e2 := congrArg List.length (upQ_some h2)
  have e3 := congrArg List.length (upQ_some h3)
  simp only [List.length_append, List.length_cons] at e1 e2 e3
  have hj := fun b => word_j0 k a.1 q.1 t.1 t.2 b (by omega) (by omega) (by omega) (by omega)
  have r0 : rdOf ByteArray.empty [str a.1, str q.1, str t.1, str t.2] 0 = str a.1 := rfl
  have r2 : rdOf ByteArray.empty [str a.1, str q.1, str t.1, str t.2] 2 = str t.1 := rfl
  have r3 : rdOf ByteArray.empty [str a.1, str q.1, str t.1, str t.2] 3 = str t.2 := rfl
  rw [h4, h1]
  simp only [List.map_cons, List.map_nil, Option.bind_some, h2, h3]
  rw [if_neg (by simp), if_pos (by simp), r0, toList_str]
  by_cases c1 : a.1 = []
  ·rw [if_pos c1, hj, if_pos rfl, if_neg (fun h => h.1.1 c1)]
   rfl
  have s1 := solid_is (str a.1) (by rw [str_size]; omega) k (by rw [str_size]; omega)
  have s2 := solid_is (str t.1) (by rw [str_size]; omega) k (by rw [str_size]; omega)
  rw [bs_str] at s1 s2
  rw [if_neg c1, s1, Option.bind_some]
  cases c2 : solidL a.1 with
  | false => simp [hj, resW]
  | true =>
   rw [if_pos rfl, if_pos (by simp), r2, s2, Option.bind_some]
   cases c3 : solidL t.1 with
   | false => simp [hj, resW]
   | true =>
    rw [if_pos rfl, if_pos (by simp), r3, prefix1_is, Option.bind_some, bs_str, hj]
    by_cases c4 : t.2.take 1 = [61]
    ·rw [beq_iff_eq.2 c4]
     simp only [Bool.not_true, Bool.false_eq_true, if_false]
     by_cases c5 : ewN a.1 q.1 t.1 ≤ 75
     ·rw [if_pos c5, if_pos ⟨⟨c1, trivial, trivial, c4⟩, c5⟩]
     rw [if_neg c5, if_neg (fun h => c5 h.2)]
     rfl
    have c4' : ¬ ((a.1 ≠ [] ∧ true = true ∧ true = true ∧ t.2.take 1 = [61]) ∧ ewN a.1 q.1 t.1 ≤ 75) := fun h => c4 h.1.2.2.2
    rw [beq_eq_false_iff_ne.2 c4, if_neg c4']
    rfl
 rw [if_neg h0, if_neg h0]
 rfl
end Go.Proofs.YtihabmcaplnbcaaGreatDoor.Pl
set_option linter.unusedVariables false
namespace Go.Proofs.YtihabmcaplnbcaaGreatDoor.Fn
open Go.RowKit Go.Proofs.YtihabmcaplnbcaaGreatDoorW.PrintWords

def strings_TrimLeft.f (a0 a1 : ByteArray) : Option ByteArray :=
 if a0.size ≤ 140737488355328 then (if a1.size ≤ 1000 then (if a1.data.toList.all (fun b => decide (b.toNat < 128)) = true then some (Pl.str (Lib.trimLeftS a0.data.toList a1.data.toList)) else none) else none) else none
theorem strings_TrimLeft.calls (a0 a1 r : ByteArray) (w : World) (h : strings_TrimLeft.f a0 a1 = some r) :
  Calls Tryz.prog 107 #[.string a0, .string a1] w fun e w' => e = .returned (.string r) ∧ Below w.heap.size w w' := by
 unfold strings_TrimLeft.f at h
 by_cases hs : a0.size ≤ 140737488355328
 ·rw [if_pos hs] at h
  by_cases hc : a1.size ≤ 1000
  ·rw [if_pos hc] at h
   by_cases ha : a1.data.toList.all (fun b => decide (b.toNat < 128)) = true
   ·rw [if_pos ha] at h
    have HR := Option.some.inj h
    subst HR
    exact Any.strings_TrimLeft_laid Tryz.lays161 (by kernel_rfl) a0 a1 w (by omega) (ascii_of_all ha)
   rw [if_neg ha] at h; exact absurd h (by simp)
  rw [if_neg hc] at h; exact absurd h (by simp)
 rw [if_neg hs] at h; exact absurd h (by simp)
end Go.Proofs.YtihabmcaplnbcaaGreatDoor.Fn
set_option linter.unusedVariables false
set_option linter.unusedSimpArgs false
namespace Go.Proofs.YtihabmcaplnbcaaGreatDoor.Pl
open Go.RowKit Go.Proofs.YtihabmcaplnbcaaGreatDoorW.PrintWords
theorem signsL_len {cs s x : Bytes} (h : signsL cs s = some x) : x.length ≤ 4 * s.length := by
 unfold signsL at h
 split at h
 ·split at h
  ·injection h with h; rw [← h]; omega
  cases h
 split at h
 ·split at h
  ·injection h with h; rw [← h]; omega
  cases h
 split at h
 ·injection h with h
  rw [← h]
  clear h
  induction s with
  | nil => simp
  | cons c s ih =>
   rw [List.flatMap_cons, List.length_append, List.length_cons]
   have := (Lib.encodeRuneZ_length (c.toNat : Int)).2
   have h4 : (er c.toNat).length ≤ 4 := by unfold er Lib.encodeRune; simpa using this
   omega
 cases h
theorem wordL_len {s x : Bytes} {n : Nat} (h : wordL s = some (x, n)) : x.length ≤ 300 := by
 unfold wordL at h
 split at h
 ·obtain ⟨a, _, h⟩ := obind_some h
  obtain ⟨k, _, h⟩ := obind_some h
  obtain ⟨t, _, h⟩ := obind_some h
  split at h
  ·next h1 =>
   obtain ⟨b, hb, h⟩ := obind_some h
   obtain ⟨y, hy, h⟩ := obind_some h
   injection h with h
   injection h with e1 e2
   have h2 := octL_len hb
   have h3 := signsL_len hy
   have h4 := h1.2
   unfold ewN at h4
   rw [← e1]
   omega
  cases h
 cases h
end Go.Proofs.YtihabmcaplnbcaaGreatDoor.Pl
namespace Go.Proofs.YtihabmcaplnbcaaGreatDoor.Fn
open Go.RowKit Go.Proofs.YtihabmcaplnbcaaGreatDoorW.PrintWords

def ew_Decode.f (a0 : ByteArray) : Option ByteArray := if a0.size ≤ 1000000000 then some (Pl.str (Pl.decodeL (Pl.bs a0))) else none
set_option maxHeartbeats 4000000 in
set_option maxRecDepth 100000 in
theorem ew_Decode.calls (a0 r : ByteArray) (w : World) (hG : Glob w) (h : ew_Decode.f a0 = some r) :
  Calls Tryz.prog 65 #[.string a0] w fun e w' => e = .returned (.string r) ∧ Below w.heap.size w w' := by
 unfold ew_Decode.f at h
 by_cases hs : a0.size ≤ 1000000000
 ·rw [if_pos hs] at h
  have HR := hid (Option.some.inj h)
  have HG := hid hG
  clear h hG
  go_enter Tryz.func65, Tryz.ntmps65
  go_wp2
  go_loopw [0] (fun v0 wr => ∃ (s : ByteArray) (fuel : Nat) (acc : List UInt8), v0 = .string s ∧ isBd w.heap.size w.heap.size (Lib.byteCells acc) wr ∧ Below w.heap.size w wr ∧ Hid (Pl.str (Pl.decL fuel (Pl.bs s) acc) = r) ∧ s.size ≤ fuel ∧ acc.length + 300 * s.size ≤ 300 * a0.size) (fun v0 wr => strLen v0)
  case atStart => exact ⟨a0, a0.size, [], rfl, Lib.IsBuilderF.of (Lib.fresh_isBuilder _ _ w), (Below.refl _ w).alloc (Nat.le_refl _) _, (by have := HR.out; unfold Pl.decodeL at this; rw [Pl.bs_length] at this; exact this), Nat.le_refl _, by simp⟩
  case round =>
   obtain ⟨s, fuel, acc, rfl, hI, hbw, hacc, hfu, hal⟩ := hrel
   have hbs := hbw.size
   have hblt := bd_lt hI
   have hzs := Pl.bs_length s
   by_cases he : s.toList = []
   ·obtain ⟨e0, e1⟩ := toList_ne he
    have hend : Hid (Pl.str acc = r) := by
     show _ = _
     rw [← hacc.out, show Pl.bs s = [] from by rw [← Pl.toList_bs]; exact he]
     cases fuel <;> rfl
    go_wp2_with (go_at_call 89; refine (Tryz.Builder_String_any_k w.heap.size w.heap.size acc _ hI hbs).mono ?_; rintro e W1 ⟨rfl, _, b1, _⟩)
    go_ret
    refine ⟨?_, hbw.trans b1⟩
    rw [← hend.out]
    rfl
   obtain ⟨e0, e1⟩ := toList_ne' he
   obtain ⟨c, l, hcl⟩ : ∃ c l, Pl.bs s = c :: l := by
    cases hx : Pl.bs s with
    | nil => rw [Pl.toList_bs] at he; exact absurd hx he
    | cons c l => exact ⟨c, l, rfl⟩
   have hlen : l.length + 1 = s.size := by rw [← hzs, hcl]; rfl
   obtain ⟨f, rfl⟩ : ∃ f, fuel = f + 1 := ⟨fuel - 1, by omega⟩
   have hwd := Pl.word_is s (by omega) (s.size + 10) (Nat.le_refl _)
   have hGr := hid (HG.out.below hbw)
   have hacc' := hacc.out
   rw [hcl, Pl.decL] at hacc'
   cases hw : Pl.wordL (Pl.bs s) with
   | none =>
    rw [hw] at hwd
    rw [hcl] at hw
    rw [hw] at hacc'
    have HW : Hid (ew_word.f (s.size + 10) s = some (⟨#[]⟩, 0)) := hwd
    have hb0 : s.size > 0 := by omega
    have hx0 : ∀ h, ((s[0]'h).toNat : Int) = (c.toNat : Int) := fun h => by
     have : (Pl.bs s)[0]? = some c := by rw [hcl]; rfl
     rw [List.getElem?_eq_getElem (by rw [hzs]; omega)] at this
     rw [← Option.some.inj this]
     rfl
    have q1 : (0 < s.size) = True := eq_true (by omega)
    have q2 : ((0 : Int) < (s.size : Int)) = True := eq_true (by omega)
    have q3 : ((1 : Int) ≤ (s.size : Int)) = True := eq_true (by omega)
    have hx2 : Pl.bs (s.extract 1 s.size) = l := by rw [Pl.bs_extract, List.take_of_length_le (by omega), hcl]; rfl
    have hx4 : (s.extract 1 s.size).size = s.size - 1 := by rw [← Pl.bs_length, hx2]; omega
    have hnew : Hid (Pl.str (Pl.decL f (Pl.bs (s.extract 1 s.size)) (acc ++ [c])) = r) := by
     show _ = _
     rw [hx2, ← hacc']
    clear hwd hw hacc hacc' he hcl hx2
    go_wp2_with (first
     | (go_at_call 105; refine (ew_word.calls _ s _ _ _ hGr.out HW.out).mono ?_; rintro e W2 ⟨rfl, b2⟩; have hI2 := bd_below hI b2)
     | (go_at_call 88; refine (bd_byte w.heap.size w.heap.size (Lib.byteCells acc) _ _ hI2 (by rw [Lib.byteCells_length]; omega) (by have := b2.size; omega)).mono ?_; rintro e W3 ⟨rfl, h3, b3, k3⟩))
    refine ⟨⟨_, f, acc ++ [c], rfl, ?_, hbw.trans ((b2.mono hbs).trans b3), hnew, by omega, ?_⟩, ?_⟩
    ·rw [Lib.byteCells_append]; exact h3.is
    ·rw [List.length_append, List.length_singleton, hx4]; omega
    simp only [strLen, hx4]; omega
   | some y =>
    obtain ⟨x, n⟩ := y
    rw [hw] at hwd
    obtain ⟨_, _, hn1, hn2, hn3, _⟩ := Pl.wordL_some hw
    have hxl := Pl.wordL_len hw
    rw [hcl] at hw
    rw [hw] at hacc'
    simp only [] at hacc'
    rw [hzs] at hn3
    obtain ⟨X, hX⟩ : ∃ X, Pl.str x = X := ⟨_, rfl⟩
    have hXb : Pl.bs X = x := by rw [← hX, Pl.bs_str]
    have hXz : X.size = x.length := by rw [← hX, Pl.str_size]
    have HW : Hid (ew_word.f (s.size + 10) s = some (X, (n : Int))) := by
     show _ = _
     rw [hwd, ← hX]
     rfl
    have hx2 : Pl.bs (s.extract n s.size) = (c :: l).drop n := by rw [Pl.bs_extract, List.take_of_length_le (by omega), hcl]
    have hx4 : (s.extract n s.size).size = s.size - n := by rw [← Pl.bs_length, hx2, List.length_drop, List.length_cons]; omega
    obtain ⟨T, hT⟩ : ∃ T, Pl.str (Pl.trimB ((c :: l).drop n)) = T := ⟨_, rfl⟩
    have hTb : Pl.bs T = Pl.trimB ((c :: l).drop n) := by rw [← hT, Pl.bs_str]
    have hTz : T.size ≤ s.size - n := by
     have := Pl.trimB_len ((c :: l).drop n)
     rw [← hTb, Pl.bs_length, List.length_drop, List.length_cons] at this
     omega
    have HT : Hid (strings_TrimLeft.f (s.extract n s.size) ⟨#[32, 9]⟩ = some T) := by
     show _ = _
     unfold strings_TrimLeft.f
     rw [if_pos (by omega), if_pos (by decide), if_pos (by decide), ← hT]
     show some (Pl.str (Lib.trimLeftS (Pl.bs (s.extract n s.size)) [32, 9])) = _
     rw [hx2]
     rfl
    have hwd2 := Pl.word_is T (by omega) (T.size + 10) (Nat.le_refl _)
    have q0 : ((n : Int) = 0) = False := eq_false (by omega)
    have q0' : ((n : Int) == 0) = false := beq_eq_false_iff_ne.2 (by omega)
    have q2 : ((n : Int) ≤ (s.size : Int)) = True := eq_true (by omega)
    have q3 : ((0 : Int) ≤ (n : Int)) = True := eq_true (by omega)
    rw [← hTb] at hacc'
    cases hw2 : Pl.wordL (Pl.bs T) with
    | none =>
     rw [hw2] at hwd2 hacc'
     have HW2 : Hid (ew_word.f (T.size + 10) T = some (⟨#[]⟩, 0)) := hwd2
     have hnew : Hid (Pl.str (Pl.decL f (Pl.bs (s.extract n s.size)) (acc ++ x)) = r) := by
      show _ = _
      rw [hx2, ← hacc']
      rfl
     clear hwd hw hacc hacc' he hcl hx2 hX hT hTb hwd2 hw2
     go_wp2_with (first
      | (go_at_call 105; refine (ew_word.calls _ T _ _ _ hG4.out HW2.out).mono ?_; rintro e W5 ⟨rfl, b5⟩)
      | (go_at_call 105; refine (ew_word.calls _ s _ _ _ hGr.out HW.out).mono ?_; rintro e W2 ⟨rfl, b2⟩; have hI2 := bd_below hI b2)
      | (go_at_call 107; refine (strings_TrimLeft.calls (s.extract n s.size) ⟨#[32, 9]⟩ T _ HT.out).mono ?_; rintro e W4 ⟨rfl, b4⟩; have hG4 := hid (HG.out.below (hbw.trans ((b2.mono hbs).trans (b3.trans (b4.mono (by have := b2.size; have := b3.size; omega)))))))
      | (go_at_call 106; refine (bd_string w.heap.size w.heap.size (Lib.byteCells acc) X _ hI2 (by rw [Lib.byteCells_length]; omega) (by have := b2.size; omega)).mono ?_; rintro e W3 ⟨rfl, h3, b3, k3⟩; have hI3 : isBd w.heap.size w.heap.size (Lib.byteCells (acc ++ x)) W3 := (by rw [Lib.byteCells_append, ← hXb]; exact h3.is)))
     go_roundw
     case rel =>
      refine ⟨_, f, acc ++ x, rfl, bd_below (bd_below hI3 b4) b5, hbw.trans ((b2.mono hbs).trans (b3.trans ((b4.mono (by have := b2.size; have := b3.size; omega)).trans (b5.mono (by have := b2.size; have := b3.size; have := b4.size; omega))))), hnew, by omega, ?_⟩
      rw [List.length_append]; omega
     case measure => simp only [strLen]; omega
    | some z =>
     obtain ⟨x2, n2⟩ := z
     obtain ⟨_, _, hn4, _, _, _⟩ := Pl.wordL_some hw2
     have q4 : ((0 : Int) < (n2 : Int)) = True := eq_true (by omega)
     have q5 : (0 < n2) = True := eq_true (by omega)
     rw [hw2] at hwd2 hacc'
     have HW2 : Hid (ew_word.f (T.size + 10) T = some (Pl.str x2, (n2 : Int))) := hwd2
     have hnew : Hid (Pl.str (Pl.decL f (Pl.bs T) (acc ++ x)) = r) := by
      show _ = _
      rw [← hacc']
      rfl
     clear hwd hw hacc hacc' he hcl hx2 hX hT hTb hwd2 hw2
     go_wp2_with (first
      | (go_at_call 105; refine (ew_word.calls _ T _ _ _ hG4.out HW2.out).mono ?_; rintro e W5 ⟨rfl, b5⟩)
      | (go_at_call 105; refine (ew_word.calls _ s _ _ _ hGr.out HW.out).mono ?_; rintro e W2 ⟨rfl, b2⟩; have hI2 := bd_below hI b2)
      | (go_at_call 107; refine (strings_TrimLeft.calls (s.extract n s.size) ⟨#[32, 9]⟩ T _ HT.out).mono ?_; rintro e W4 ⟨rfl, b4⟩; have hG4 := hid (HG.out.below (hbw.trans ((b2.mono hbs).trans (b3.trans (b4.mono (by have := b2.size; have := b3.size; omega)))))))
      | (go_at_call 106; refine (bd_string w.heap.size w.heap.size (Lib.byteCells acc) X _ hI2 (by rw [Lib.byteCells_length]; omega) (by have := b2.size; omega)).mono ?_; rintro e W3 ⟨rfl, h3, b3, k3⟩; have hI3 : isBd w.heap.size w.heap.size (Lib.byteCells (acc ++ x)) W3 := (by rw [Lib.byteCells_append, ← hXb]; exact h3.is)))
     go_roundw
     case rel =>
      refine ⟨_, f, acc ++ x, rfl, bd_below (bd_below hI3 b4) b5, hbw.trans ((b2.mono hbs).trans (b3.trans ((b4.mono (by have := b2.size; have := b3.size; omega)).trans (b5.mono (by have := b2.size; have := b3.size; have := b4.size; omega))))), hnew, by omega, ?_⟩
      rw [List.length_append]; omega
     case measure => simp only [strLen]; omega
 rw [if_neg hs] at h; exact absurd h (by simp)
end Go.Proofs.YtihabmcaplnbcaaGreatDoor.Fn
namespace Go.Proofs.YtihabmcaplnbcaaGreatDoor.Fn
open Go.RowKit Go.Proofs.YtihabmcaplnbcaaGreatDoorW.PrintWords Go.Proofs.YtihabmcaplnbcaaGreatDoorW.PrintLast Go.Proofs.YtihabmcaplnbcaaGreatDoorW.PrintMore
attribute [local go_sem] max2_int min2_int max_two min_two max_three min_three max_four min_four
set_option linter.unusedVariables false
set_option linter.unusedSimpArgs false
def rights_Subject.f (k : Nat) (l0_0 : List (S35)) (a0_1 : ByteArray) : Option (ByteArray) := (msg_Message_Get.f k l0_0 a0_1 (⟨#[83, 117, 98, 106, 101, 99, 116]⟩ : ByteArray)).bind fun t778 => ((ew_Decode.f t778).bind fun t779 => ((glyph_Clean.f t779).bind fun t780 => (some t780)))
set_option maxHeartbeats 8000000 in
set_option maxRecDepth 100000 in
theorem rights_Subject.calls (k : Nat) (A0_0 : Option Addr) (c0_0 : Nat) (l0_0 : List (S35)) (a0_1 : ByteArray) (r : ByteArray) (w : World) (hG : Glob w) (hr0_0 : Kd.C k35 w A0_0 l0_0.length l0_0) (hc0_0 : l0_0.length ≤ c0_0) (h : rights_Subject.f k l0_0 a0_1 = some r) :
  Calls Tryz.prog 92 #[.agg #[.slice A0_0 l0_0.length c0_0, .string a0_1]] w fun e w' => e = .returned (.string r) ∧ Below w.heap.size w w' := by
 have hu29 := Tryz.underlying29; have HR0_0 := Aside0.mk hr0_0; have HC0_0 := Aside0.mk hc0_0; clear hr0_0 hc0_0; have HB := Aside0.mk (Below.refl w.heap.size w); have H : ((msg_Message_Get.f k l0_0 a0_1 (⟨#[83, 117, 98, 106, 101, 99, 116]⟩ : ByteArray)).bind fun t778 => ((ew_Decode.f t778).bind fun t779 => ((glyph_Clean.f t779).bind fun t780 => (some t780)))) = some r := h; clear h; replace H := Option.bind_eq_some_iff.mp H; obtain ⟨t778, A20, H⟩ := H; have A2 := Aside0.mk A20; clear A20; replace H := Option.bind_eq_some_iff.mp H; obtain ⟨t779, A30, H⟩ := H; have A3 := Aside0.mk A30; clear A30; replace H := Option.bind_eq_some_iff.mp H; obtain ⟨t780, A40, H⟩ := H; have A4 := Aside0.mk A40; clear A40; obtain rfl := Option.some.inj H
 go_enter Tryz.func92, Tryz.ntmps92
 go_wp2_with (first | ((with_reducible refine gate_dst (N := 1) rfl ?_); refine box_event ?hg (N := 1) ?hd (cs := #[.slice A0_0 l0_0.length c0_0, .string a0_1]) (t := 29) ?hr ?_; (case hd => rfl); (case hg => rfl); (case hr => first | (go_simp; done) | (go_simp; rfl)); intro gb777 hg w5 hbox hb; have n0_ := Aside0.mk (below_step bw hb); have n1_ := Aside0.mk (hbox); have n2_ := Aside0.mk ((by rw [hg]; exact (below_size bw) : w.heap.size ≤ gb777)); have n3_ := Aside0.mk ((by rw [hg]; exact (below_size bw) : w.heap.size ≤ gb777)); clear HB; have HB := n0_; have BK777 := n1_; have GW777 := n2_; have GE777 := n3_; clear n0_ n1_ n2_ n3_; clear hb hbox hg; have hcz6_0 : w5.cell? ⟨gb777, 0, none⟩ = some (.slice A0_0 l0_0.length c0_0) := (blk_cell BK777.out 0).trans rfl; have hcz6_1 : w5.cell? ⟨gb777, 1, none⟩ = some (.string a0_1) := (blk_cell BK777.out 1).trans rfl; have hfz6_0 := blk_frozen BK777.out 0; have hfz6_1 := blk_frozen BK777.out 1) | ((with_reducible refine gate_callee (f := 17) rfl ?_); refine goesL_ (some 4) rfl rfl Tryz.func17 (by kernel_rfl) rfl #[.agg #[.slice A0_0 l0_0.length c0_0, .string a0_1], .string (⟨#[83, 117, 98, 106, 101, 99, 116]⟩ : ByteArray)] rfl am ?_; (with_reducible refine (msg_Message_Get.calls k _ _ l0_0 a0_1 (⟨#[83, 117, 98, 106, 101, 99, 116]⟩ : ByteArray) t778 _ ?side1 ?side2 A2.out).mono ?_); (case side1 => repeat (first | exact (Kd.C_below HR0_0.out HB.out) | (with_reducible refine Kd.C_alloc ?_ _) | (with_reducible refine Kd.C_drewN ?_ _) | (with_reducible refine Kd.C_drew ?_))); (case side2 => exact HC0_0.out); rintro e w7 ⟨rfl, hb⟩; refine ⟨_, rfl, ?_⟩; have n0_ := Aside0.mk (blk_below (g := gb777) (o := .cells #[.slice A0_0 l0_0.length c0_0, .string a0_1] 29 (0, 0)) bk hb); have n1_ := Aside0.mk (below_step bwS hb); clear BK777; clear HB; have BK777 := n0_; have HB := n1_; clear n0_ n1_; (try clear hb); (try clear hb2); (try clear hk); (try clear hi)) | ((with_reducible refine gate_callee (f := 65) rfl ?_); refine goesL_ (some 5) rfl rfl Tryz.func65 (by kernel_rfl) rfl #[.string t778] rfl am ?_; (with_reducible refine (ew_Decode.calls (hG := by first | exact hG | exact Glob.below hG (by first | exact HB.out | (repeat (first | (with_reducible first | exact HB.out | apply below_alloc | apply pw_below_drewN | apply below_drew1 | refine below_set ?_ GE777.out) | exact HB.out))) | exact Glob.drawn hG (d0)) t778 t779 _ A3.out).mono ?_); rintro e w8 ⟨rfl, hb⟩; refine ⟨_, rfl, ?_⟩; have n0_ := Aside0.mk (blk_below (g := gb777) (o := .cells #[.slice A0_0 l0_0.length c0_0, .string a0_1] 29 (0, 0)) bk hb); have n1_ := Aside0.mk (below_step bwS hb); clear BK777; clear HB; have BK777 := n0_; have HB := n1_; clear n0_ n1_; (try clear hb); (try clear hb2); (try clear hk); (try clear hi)) | ((with_reducible refine gate_callee (f := 64) rfl ?_); refine goesL_ (some 6) rfl rfl Tryz.func64 (by kernel_rfl) rfl #[.string t779] rfl am ?_; (with_reducible refine (glyph_Clean.calls t779 t780 _ A4.out).mono ?_); rintro e w9 ⟨rfl, hb⟩; refine ⟨_, rfl, ?_⟩; have n0_ := Aside0.mk (blk_below (g := gb777) (o := .cells #[.slice A0_0 l0_0.length c0_0, .string a0_1] 29 (0, 0)) bk hb); have n1_ := Aside0.mk (below_step bwS hb); clear BK777; clear HB; have BK777 := n0_; have HB := n1_; clear n0_ n1_; (try clear hb); (try clear hb2); (try clear hk); (try clear hi)))
 go_ret
 exact ⟨ew, bwS⟩

end Go.Proofs.YtihabmcaplnbcaaGreatDoor.Fn
namespace Go.Proofs.YtihabmcaplnbcaaGreatDoor.Fn
open Go.RowKit Go.Proofs.YtihabmcaplnbcaaGreatDoorW.PrintWords Go.Proofs.YtihabmcaplnbcaaGreatDoorW.PrintLast Go.Proofs.YtihabmcaplnbcaaGreatDoorW.PrintMore
attribute [local go_sem] max2_int min2_int max_two min_two max_three min_three max_four min_four
set_option linter.unusedVariables false
set_option linter.unusedSimpArgs false

mutual
def order_subject.j1 : Nat → List ByteArray → Option ((List (S63)))
 | 0, _ => none
 | k + 1, x3 => if (x3.length : Int) = 0 then (order_subject.j2 k x3 true) else ((order_stops.f x3).bind fun t790 => (order_subject.j2 k x3 t790))
def order_subject.j2 : Nat → List ByteArray → Bool → Option ((List (S63)))
 | 0, _, _ => none
 | k + 1, x3, x25 => if x25 = true then (some ([] : List (S63))) else ((order_command.f k x3).bind fun bt791 => (if bt791.1 = 5 then (some ([] : List (S63))) else (some (([(⟨bt791.1, bt791.2.1, bt791.2.2⟩ : S63)] : List (S63))))))
def order_subject.l0 : Nat → List ByteArray → Option ((List (S63)))
 | 0, _ => none
 | k + 1, x3 => if (x3.length : Int) > 0 then (if 0 < (x3.length : Int) then (if (rdOf ByteArray.empty x3 0).toList = ([114, 101, 58] : List UInt8) then (if 1 ≤ (x3.length : Int) then (order_subject.l0 k (x3.drop (1 : Int).toNat)) else (none)) else (order_subject.j1 k x3)) else (none)) else (order_subject.j1 k x3)
end
def order_subject.f (k : Nat) (l0_0 : List (S35)) (a0_1 : ByteArray) : Option ((List (S63))) := (rights_Subject.f k l0_0 a0_1).bind fun t782 => ((order_words.f t782).bind fun t783 => (order_subject.l0 k t783))
set_option maxHeartbeats 8000000 in
set_option maxRecDepth 100000 in
theorem order_subject.calls (k : Nat) (A0_0 : Option Addr) (c0_0 : Nat) (l0_0 : List (S35)) (a0_1 : ByteArray) (r : List (S63)) (w : World) (hG : Glob w) (hr0_0 : Kd.C k35 w A0_0 l0_0.length l0_0) (hc0_0 : l0_0.length ≤ c0_0) (h : order_subject.f k l0_0 a0_1 = some r) :
  Calls Tryz.prog 54 #[.agg #[.slice A0_0 l0_0.length c0_0, .string a0_1]] w fun e w' => ∃ v0_ : Value, e = .returned (v0_) ∧ Kd.R k63 63 w' w.heap.size (fun _ => True) v0_ r ∧ Below w.heap.size w w' := by
 have hu29 := Tryz.underlying29; have hu63 := Tryz.underlying63; have HR0_0 := Aside0.mk hr0_0; have HC0_0 := Aside0.mk hc0_0; clear hr0_0 hc0_0; have HB := Aside0.mk (Below.refl w.heap.size w); have H : ((rights_Subject.f k l0_0 a0_1).bind fun t782 => ((order_words.f t782).bind fun t783 => (order_subject.l0 k t783))) = some r := h; clear h; replace H := Option.bind_eq_some_iff.mp H; obtain ⟨t782, A20, H⟩ := H; have A2 := Aside0.mk A20; clear A20; replace H := Option.bind_eq_some_iff.mp H; obtain ⟨t783, A30, H⟩ := H; have A3 := Aside0.mk A30; clear A30; have HC4 := Aside0.mk H; clear H
 go_enter Tryz.func54, Tryz.ntmps54
 go_upto_block 0 with (first | ((with_reducible refine gate_dst (N := 1) rfl ?_); refine box_event ?hg (N := 1) ?hd (cs := #[.slice A0_0 l0_0.length c0_0, .string a0_1]) (t := 29) ?hr ?_; (case hd => rfl); (case hg => rfl); (case hr => first | (go_simp; done) | (go_simp; rfl)); intro gb781 hg w5 hbox hb; have n0_ := Aside0.mk (below_step bw hb); have n1_ := Aside0.mk (hbox); have n2_ := Aside0.mk ((by rw [hg]; exact (below_size bw) : w.heap.size ≤ gb781)); have n3_ := Aside0.mk ((by rw [hg]; exact (below_size bw) : w.heap.size ≤ gb781)); clear HB; have HB := n0_; have BK781 := n1_; have GW781 := n2_; have GE781 := n3_; clear n0_ n1_ n2_ n3_; clear hb hbox hg; have hcz6_0 : w5.cell? ⟨gb781, 0, none⟩ = some (.slice A0_0 l0_0.length c0_0) := (blk_cell BK781.out 0).trans rfl; have hcz6_1 : w5.cell? ⟨gb781, 1, none⟩ = some (.string a0_1) := (blk_cell BK781.out 1).trans rfl; have hfz6_0 := blk_frozen BK781.out 0; have hfz6_1 := blk_frozen BK781.out 1) | ((with_reducible refine gate_callee (f := 92) rfl ?_); refine goesL_ (some 6) rfl rfl Tryz.func92 (by kernel_rfl) rfl #[.agg #[.slice A0_0 l0_0.length c0_0, .string a0_1]] rfl am ?_; (with_reducible refine (rights_Subject.calls (hG := by first | exact hG | exact Glob.below hG (by first | exact HB.out | (repeat (first | (with_reducible first | exact HB.out | apply below_alloc | apply pw_below_drewN | apply below_drew1 | refine below_set ?_ GE781.out | refine below_set ?_ GE794.out) | exact HB.out))) | exact Glob.drawn hG (d0)) k _ _ l0_0 a0_1 t782 _ ?side1 ?side2 A2.out).mono ?_); (case side1 => repeat (first | exact (Kd.C_below HR0_0.out HB.out) | (with_reducible refine Kd.C_alloc ?_ _) | (with_reducible refine Kd.C_drewN ?_ _) | (with_reducible refine Kd.C_drew ?_))); (case side2 => exact HC0_0.out); rintro e w7 ⟨rfl, hb⟩; refine ⟨_, rfl, ?_⟩; have n0_ := Aside0.mk (blk_below (g := gb781) (o := .cells #[.slice A0_0 l0_0.length c0_0, .string a0_1] 29 (0, 0)) bk hb); have n1_ := Aside0.mk (below_step bwS hb); clear BK781; clear HB; have BK781 := n0_; have HB := n1_; clear n0_ n1_; (try clear hb); (try clear hb2); (try clear hk); (try clear hi)) | ((with_reducible refine gate_callee (f := 55) rfl ?_); refine goesL_ (some 7) rfl rfl Tryz.func55 (by kernel_rfl) rfl #[.string t782] rfl am ?_; (with_reducible refine (order_words.calls t782 t783 _ A3.out).mono ?_); rintro e w8 ⟨v784, rfl, ho0, hb⟩; refine ⟨_, rfl, ?_⟩; have n0_ := Aside0.mk (Kd.R_lower ho0 (below_size bwS)); have n1_ := Aside0.mk (blk_below (g := gb781) (o := .cells #[.slice A0_0 l0_0.length c0_0, .string a0_1] 29 (0, 0)) bk hb); have n2_ := Aside0.mk (below_step bwS hb); clear BK781; clear HB; have HO785 := n0_; have BK781 := n1_; have HB := n2_; clear n0_ n1_ n2_; (try clear hb); (try clear hb2); (try clear hk); (try clear hi); (try clear ho0)))
 (try simp only [Act.put, List.setIfInBounds_toArray, List.set_cons_zero, List.set_cons_succ])
 go_cut [3] (fun v3 wc => ∃ (kq : Nat) (x3_3 : List ByteArray), Aside0 (order_subject.j1 kq x3_3 = some r) ∧ Aside0 (kq ≤ k) ∧ Aside0 (Kd.Q Kd.string 9 wc w.heap.size (fun _ => True) v3 x3_3) ∧ Aside0 (wc.heap[gb781]? = some (.cells #[(.slice A0_0 l0_0.length c0_0), .string a0_1] 29 (0, 0))) ∧ Aside0 (Below w.heap.size w wc))
 case first =>
  have H := HC4.out; clear HC4; have H' := Aside0.mk H; clear H
  go_wp2
  go_loopg [3] k (fun kq v3 w' => ∃ (x3_1 : List ByteArray), Aside0 (order_subject.l0 kq x3_1 = some r) ∧ Aside0 (kq ≤ k) ∧ Aside0 (Kd.Q Kd.string 9 w' w.heap.size (fun _ => True) v3 x3_1) ∧ Aside0 (w'.heap[gb781]? = some (.cells #[(.slice A0_0 l0_0.length c0_0), .string a0_1] 29 (0, 0))) ∧ Aside0 (Below w.heap.size w w'))
  case atStart => exact ⟨(t783), H', ⟨Nat.le_refl _⟩, ⟨Kd.Q_of_R (ra HO785.out)⟩, ⟨bk⟩, ⟨bwS⟩⟩
  case round =>
   clear H'
   try clear p2
   try clear c5
   try clear hcz6_0
   try clear hcz6_1
   try clear hfz6_0
   try clear hfz6_1
   obtain ⟨x3_1, HA, HK1, HO_3, BK781, HB⟩ := hrel; cases gk with
   | zero => exact absurd HA.out (by simp [order_subject.l0])
   | succ k1 =>
    have H := HA.out; clear HA; simp only [order_subject.l0] at H
    by_cases c9 : (x3_1.length : Int) > 0
    ·rw [if_pos c9] at H; have c9b0 : decide (0 < (x3_1.length : Int)) = true := decide_eq_true c9; have c9b1 : decide (0 < x3_1.length) = true := decide_eq_true (by omega); clear c9
     (first | rw [c9b0] | (simp only [i64_w, i32_w]; rw [c9b0]) | skip)
     by_cases c10 : 0 < (x3_1.length : Int)
     ·rw [if_pos c10] at H; have c10b0 := decide_eq_true c10; have c10b1 : decide (0 < x3_1.length) = true := decide_eq_true (by omega); clear c10
      by_cases c11 : (rdOf ByteArray.empty x3_1 0).toList = ([114, 101, 58] : List UInt8)
      ·rw [if_pos c11] at H; have c11b0 := beq_iff_eq.mpr c11; have c11b1 := bne_eq_false_iff_eq.mpr c11; clear c11
       by_cases c12 : 1 ≤ (x3_1.length : Int)
       ·rw [if_pos c12] at H; have c12b0 := eq_true c12; have c12b1 := decide_eq_true c12; clear c12; obtain ⟨y787, hy787⟩ : ∃ y_ : List ByteArray, y_ = (x3_1.drop (1 : Int).toNat) := ⟨_, rfl⟩
        replace H : (order_subject.l0 k1 y787) = some r := by first | (rw [hy787]; with_reducible exact H) | (have H2_ := (Option.bind_some _ _).symm.trans H; rw [hy787]; with_reducible exact H2_) | (have H2_ := (Option.bind_some _ _).symm.trans H; with_reducible exact H2_) | with_reducible exact H | (rw [hy787]; exact H) | exact H
        have Ny787 := Aside0.mk hy787; clear hy787; have H' := Aside0.mk H; clear H; obtain ⟨Ao13, co13, eo13, _⟩ := Kd.Q_slice HO_3.out; subst eo13; have p786 : 0 ≤ (0 : Int) := (by omega)
        have q786 : 0 < (x3_1.length : Int) := od; obtain ⟨ad786, e786, hx786_0⟩ := Kd.at_string (Kd.Q_reads' HO_3.out).2.2 0 p786 q786; cases e786; have qi786 : (0 < x3_1.length) = True := eq_true (by omega)
        (try rw [show ((0 : Int)).toNat = 0 from rfl] at hx786_0)
        (try rw [Addr.add_zero'] at hx786_0)
        replace p786 := eq_true p786; replace q786 := eq_true q786; have q14 : (1 : Int) ≤ ((x3_1.length : Int) : Int) := od; obtain ⟨i014, hi014, _, hsz14, _⟩ := info_parts info9; have hcut14 := cut_from (P := Tryz.prog) 53 9 .i64 Tryz.underlying53 hi014 1 hsz14 (some ad786) x3_1.length co13 1 (by omega) q14; have hr14 := Kd.Q_drop (k := (1 : Int).toNat) HO_3.out (by omega); obtain ⟨A14, hA14⟩ : ∃ A1, A1 = (if co13 = (1 : Int).toNat then (some ad786) else ((some ad786) : Option Addr).map (·.add ((1 : Int).toNat * 1))) := ⟨_, rfl⟩
        obtain ⟨c14, hc14⟩ : ∃ c1, c1 = co13 - (1 : Int).toNat := ⟨_, rfl⟩
        have hy14 : y787.length = x3_1.length - (1 : Int).toNat := (by rw [Ny787.out, List.length_drop])
        rw [← Ny787.out] at hr14; rw [← hy14, ← hA14, ← hc14] at hcut14; replace hr14 : Kd.Q Kd.string 9 wr w.heap.size (fun _ => True) (.slice A14 y787.length c14) y787 := (by rw [hA14, hc14, hy14]; exact hr14)
        have HE14 : Aside0 ((Value.slice A14 y787.length c14).ownBlock = (.slice (some ad786) x3_1.length co13 : Value).ownBlock) := ⟨by rw [hA14]; split <;> (cases ((some ad786) : Option Addr) <;> rfl)⟩
        clear hy14 hi014 hsz14 HO_3 hA14 hc14; have HO789 := Aside0.mk hr14; clear hr14; replace q14 := eq_true q14
        go_wp2
        go_roundg k1
        case measure => have := HK1.out; omega
        case rel => exact ⟨(y787), H', ⟨by have := HK1.out; omega⟩, ⟨by (with_reducible repeat (first | apply Kd.Q_alloc | apply Kd.Q_drewN | apply Kd.Q_drew)); exact HO789.out⟩, ⟨bk⟩, ⟨bwS⟩⟩
       rw [if_neg c12] at H; exact absurd H (by simp)
      rw [if_neg c11] at H; have c11b0 := beq_eq_false_iff_ne.mpr c11; have c11b1 := bne_iff_ne.mpr c11; have H' := Aside0.mk H; clear H; obtain ⟨Ao15, co15, eo15, _⟩ := Kd.Q_slice HO_3.out; subst eo15; have p786 : 0 ≤ (0 : Int) := (by omega)
      have q786 : 0 < (x3_1.length : Int) := od; obtain ⟨ad786, e786, hx786_0⟩ := Kd.at_string (Kd.Q_reads' HO_3.out).2.2 0 p786 q786; cases e786; have qi786 : (0 < x3_1.length) = True := eq_true (by omega)
      (try rw [show ((0 : Int)).toNat = 0 from rfl] at hx786_0)
      (try rw [Addr.add_zero'] at hx786_0)
      replace p786 := eq_true p786; replace q786 := eq_true q786
      go_wp2
      go_meet
      case rel => exact ⟨_, (x3_1), H', ⟨by have := HK1.out; first | omega | exact Nat.le_refl _⟩, ⟨by (with_reducible repeat (first | apply Kd.Q_alloc | apply Kd.Q_drewN | apply Kd.Q_drew)); exact HO_3.out⟩, ⟨bk⟩, ⟨bwS⟩⟩
     rw [if_neg c10] at H; exact absurd H (by simp)
    rw [if_neg c9] at H; have c9b0 : decide (0 < (x3_1.length : Int)) = false := decide_eq_false c9; have c9b1 : decide (0 < x3_1.length) = false := decide_eq_false (by omega); clear c9
    (first | rw [c9b0] | (simp only [i64_w, i32_w]; rw [c9b0]) | skip)
    have H' := Aside0.mk H; clear H; obtain ⟨Ao16, co16, eo16, _⟩ := Kd.Q_slice HO_3.out; subst eo16
    go_wp2
    go_meet
    case rel => exact ⟨_, (x3_1), H', ⟨by have := HK1.out; first | omega | exact Nat.le_refl _⟩, ⟨by (with_reducible repeat (first | apply Kd.Q_alloc | apply Kd.Q_drewN | apply Kd.Q_drew)); exact HO_3.out⟩, ⟨bk⟩, ⟨bwS⟩⟩
 case rest =>
  clear HC4
  try clear c1
  try clear q1
  try clear p2
  try clear c5
  try clear p7
  try clear q7
  try clear hx7
  try clear qi7
  try clear c9
  try clear c9b0
  try clear c9b1
  try clear c10
  try clear c10b0
  try clear c10b1
  try clear c11
  try clear c11b0
  try clear c11b1
  try clear c12
  try clear c12b0
  try clear c12b1
  try clear c14
  try clear q14
  try clear hcz6_0
  try clear hcz6_1
  try clear hfz6_0
  try clear hfz6_1
  try clear hx786_0
  try clear p2
  try clear p786
  try clear q14
  try clear q786
  obtain ⟨kq, x3_3, HA, HJ3, HO_3, BK781, HB⟩ := hcut; cases kq with
  | zero => exact absurd HA.out (by simp [order_subject.j1])
  | succ kj3 =>
   have H := HA.out; clear HA; simp only [order_subject.j1] at H; have HC17 := Aside0.mk H; clear H
   go_upto_region 4 with (fail)
   go_cut [25] (fun v25 wc => ∃ (kq : Nat) (x25_16 : Bool), v25 = .bool x25_16 ∧ Aside0 (order_subject.j2 kq x3_3 x25_16 = some r) ∧ Aside0 (kq ≤ kj3) ∧ Aside0 (Kd.Q Kd.string 9 wc w.heap.size (fun _ => True) u3 x3_3) ∧ Aside0 (wc.heap[gb781]? = some (.cells #[(.slice A0_0 l0_0.length c0_0), .string a0_1] 29 (0, 0))) ∧ Aside0 (Below w.heap.size w wc))
   case first =>
    have H := HC17.out; clear HC17
    by_cases c18 : (x3_3.length : Int) = 0
    ·rw [if_pos c18] at H; have c18b0 := beq_iff_eq.mpr c18; have c18b1 := bne_eq_false_iff_eq.mpr c18; clear c18
     (first | rw [c18b0] | (simp only [i64_w, i32_w]; rw [c18b0]) | skip)
     have H' := Aside0.mk H; clear H; obtain ⟨Ao19, co19, eo19, _⟩ := Kd.Q_slice HO_3.out; subst eo19
     go_wp2
     go_meet
     case rel => exact ⟨_, (true), cl, H', ⟨by have := HJ3.out; first | omega | exact Nat.le_refl _⟩, ⟨by (with_reducible repeat (first | apply Kd.Q_alloc | apply Kd.Q_drewN | apply Kd.Q_drew)); exact HO_3.out⟩, ⟨bk⟩, ⟨bwS⟩⟩
    rw [if_neg c18] at H; have c18b0 := beq_eq_false_iff_ne.mpr c18; have c18b1 := bne_iff_ne.mpr c18; have c18b2 : ¬ (x3_3 = []) := fun h_ => c18 (by rw [h_]; rfl)
    (first | rw [c18b0] | (simp only [i64_w, i32_w]; rw [c18b0]) | skip)
    replace H := Option.bind_eq_some_iff.mp H; obtain ⟨t790, A200, H⟩ := H; have A20 := Aside0.mk A200; clear A200; have H' := Aside0.mk H; clear H; obtain ⟨Ao21, co21, eo21, _⟩ := Kd.Q_slice HO_3.out; subst eo21
    go_wp2_with (first | (go_at_call 57; (with_reducible refine (order_stops.calls _ _ x3_3 t790 _ ?side1 ?side2 A20.out).mono ?_); (case side1 => repeat (first | exact (Kd.Q_reads' HO_3.out).2.2 | (with_reducible refine Kd.C_alloc ?_ _) | (with_reducible refine Kd.C_drewN ?_ _) | (with_reducible refine Kd.C_drew ?_))); (case side2 => exact (Kd.Q_reads' HO_3.out).2.1); rintro e w' ⟨rfl, ⟨nd, rfl⟩⟩))
    go_meet
    case rel => exact ⟨_, (t790), cl, H', ⟨by have := HJ3.out; first | omega | exact Nat.le_refl _⟩, ⟨by (with_reducible repeat (first | apply Kd.Q_alloc | apply Kd.Q_drewN | apply Kd.Q_drew)); exact HO_3.out⟩, ⟨bk⟩, ⟨bwS⟩⟩
   case rest =>
    clear HC17
    try clear c1
    try clear q1
    try clear p2
    try clear c5
    try clear p7
    try clear q7
    try clear hx7
    try clear qi7
    try clear c9
    try clear c9b0
    try clear c9b1
    try clear c10
    try clear c10b0
    try clear c10b1
    try clear c11
    try clear c11b0
    try clear c11b1
    try clear c12
    try clear c12b0
    try clear c12b1
    try clear c14
    try clear q14
    try clear c18
    try clear c18b0
    try clear c18b1
    try clear c18b2
    try clear hcz6_0
    try clear hcz6_1
    try clear hfz6_0
    try clear hfz6_1
    try clear hx786_0
    try clear p2
    try clear p7
    try clear p786
    try clear q1
    try clear q14
    try clear q7
    try clear q786
    obtain ⟨kq, x25_16, rfl, HA, HJ16, HO_3, BK781, HB⟩ := hcut; cases kq with
    | zero => exact absurd HA.out (by simp [order_subject.j2])
    | succ kj16 =>
     have H := HA.out; clear HA; simp only [order_subject.j2] at H
     by_cases c22 : x25_16 = true
     ·subst c22; rw [if_pos rfl] at H; obtain rfl := Option.some.inj H
      go_wp2
      go_ret
      exact ⟨_, ew, by first | exact Kd.R_nil _ _ _ _ _ | exact Kd.N_nil _ _ _ _ _ | exact Kd.V_nil _ _ _ _ _ | exact Kd.Q_nil _ _ _ _ _ | exact Kd.S_nil _ _ _ _ _, bwS⟩
     replace c22 := Bool.eq_false_iff.mpr c22; subst c22; rw [if_neg nft] at H; replace H := Option.bind_eq_some_iff.mp H; obtain ⟨⟨t791, t792, t793⟩, A230, H⟩ := H; replace H : (if t791 = 5 then (some ([] : List (S63))) else (some (([(⟨t791, t792, t793⟩ : S63)] : List (S63))))) = some r := H; have A23 := Aside0.mk A230; clear A230
     by_cases c24 : t791 = 5
     ·rw [if_pos c24] at H; have c24b0 := beq_iff_eq.mpr c24; have c24b1 := bne_eq_false_iff_eq.mpr c24; clear c24; obtain rfl := Option.some.inj H; obtain ⟨Ao25, co25, eo25, _⟩ := Kd.Q_slice HO_3.out; subst eo25
      go_wp2_with (first | ((with_reducible refine gate_callee (f := 58) rfl ?_); refine goesL_ (some 27) rfl rfl Tryz.func58 (by kernel_rfl) rfl #[.slice Ao25 x3_3.length co25] rfl am ?_; (with_reducible refine (order_command.calls kj16 _ _ x3_3 t791 t792 t793 _ ?side1 ?side2 A23.out).mono ?_); (case side1 => repeat (first | exact (Kd.Q_reads' HO_3.out).2.2 | (with_reducible refine Kd.C_alloc ?_ _) | (with_reducible refine Kd.C_drewN ?_ _) | (with_reducible refine Kd.C_drew ?_))); (case side2 => exact (Kd.Q_reads' HO_3.out).2.1); rintro e w26 ⟨rfl, hb⟩; refine ⟨_, rfl, ?_⟩; have n0_ := Aside0.mk (Kd.Q_below (by (with_reducible repeat (first | apply Kd.Q_alloc | apply Kd.Q_drewN | apply Kd.Q_drew)); exact HO_3.out) hb); have n1_ := Aside0.mk (blk_below (g := gb781) (o := .cells #[.slice A0_0 l0_0.length c0_0, .string a0_1] 29 (0, 0)) bk hb); have n2_ := Aside0.mk (below_step bwS hb); clear HO_3; clear BK781; clear HB; have HO_3 := n0_; have BK781 := n1_; have HB := n2_; clear n0_ n1_ n2_; (try clear hb); (try clear hb2); (try clear hk); (try clear hi)) | ((with_reducible refine gate_dst (N := 4) rfl ?_); refine box_event ?hg (N := 4) ?hd (cs := #[.int .i64 0, .int .i64 0, .string (⟨#[]⟩ : ByteArray)]) (t := 63) ?hr ?_; (case hd => rfl); (case hg => rfl); (case hr => first | (go_simp; done) | (go_simp; rfl)); intro gb794 hg w27 hbox hb; have n0_ := Aside0.mk (Kd.Q_below (by (with_reducible repeat (first | apply Kd.Q_alloc | apply Kd.Q_drewN | apply Kd.Q_drew)); exact HO_3.out) hb); have n1_ := Aside0.mk (blk_below (g := gb781) (o := .cells #[.slice A0_0 l0_0.length c0_0, .string a0_1] 29 (0, 0)) bk hb); have n2_ := Aside0.mk (below_step bwS hb); have n3_ := Aside0.mk (hbox); have n4_ := Aside0.mk ((by rw [hg]; exact (below_size bwS) : w.heap.size ≤ gb794)); have n5_ := Aside0.mk ((by rw [hg]; exact (below_size bwS) : w.heap.size ≤ gb794)); have n6_ := Aside0.mk ((by rw [hg]; exact Nat.ne_of_lt (blk_lt (g := gb781) (o := .cells #[.slice A0_0 l0_0.length c0_0, .string a0_1] 29 (0, 0)) bk) : gb781 ≠ gb794)); have n7_ := Aside0.mk ((by rw [hg]; exact Nat.ne_of_gt (blk_lt (g := gb781) (o := .cells #[.slice A0_0 l0_0.length c0_0, .string a0_1] 29 (0, 0)) bk) : gb794 ≠ gb781)); clear HO_3; clear BK781; clear HB; have HO_3 := n0_; have BK781 := n1_; have HB := n2_; have BK794 := n3_; have GW794 := n4_; have GE794 := n5_; have NB781_794 := n6_; have NB794_781 := n7_; clear n0_ n1_ n2_ n3_ n4_ n5_ n6_ n7_; clear hb hbox hg; have hnb28 := NB794_781.out; have hnc28 := NB781_794.out; have hcz29_0 : w27.cell? ⟨gb794, 0, none⟩ = some (.int .i64 0) := (blk_cell BK794.out 0).trans rfl; have hcz29_1 : w27.cell? ⟨gb794, 1, none⟩ = some (.int .i64 0) := (blk_cell BK794.out 1).trans rfl; have hcz29_2 : w27.cell? ⟨gb794, 2, none⟩ = some (.string (⟨#[]⟩ : ByteArray)) := (blk_cell BK794.out 2).trans rfl; have hfz29_0 := blk_frozen BK794.out 0; have hfz29_1 := blk_frozen BK794.out 1; have hfz29_2 := blk_frozen BK794.out 2))
      go_ret
      exact ⟨_, ew, by first | exact Kd.R_nil _ _ _ _ _ | exact Kd.N_nil _ _ _ _ _ | exact Kd.V_nil _ _ _ _ _ | exact Kd.Q_nil _ _ _ _ _ | exact Kd.S_nil _ _ _ _ _, bwS⟩
     rw [if_neg c24] at H; have c24b0 := beq_eq_false_iff_ne.mpr c24; have c24b1 := bne_iff_ne.mpr c24; obtain ⟨y795, hy795⟩ : ∃ y_ : List (S63), y_ = (([(⟨t791, t792, t793⟩ : S63)] : List (S63))) := ⟨_, rfl⟩
     replace H : (some y795) = some r := by first | (rw [hy795]; with_reducible exact H) | (have H2_ := (Option.bind_some _ _).symm.trans H; rw [hy795]; with_reducible exact H2_) | (have H2_ := (Option.bind_some _ _).symm.trans H; with_reducible exact H2_) | with_reducible exact H | (rw [hy795]; exact H) | exact H
     have Ny795 := Aside0.mk hy795; clear hy795; obtain rfl := Option.some.inj H; obtain ⟨Ao30, co30, eo30, _⟩ := Kd.Q_slice HO_3.out; subst eo30
     go_wp2_with (first | ((with_reducible refine gate_callee (f := 58) rfl ?_); refine goesL_ (some 27) rfl rfl Tryz.func58 (by kernel_rfl) rfl #[.slice Ao30 x3_3.length co30] rfl am ?_; (with_reducible refine (order_command.calls kj16 _ _ x3_3 t791 t792 t793 _ ?side1 ?side2 A23.out).mono ?_); (case side1 => repeat (first | exact (Kd.Q_reads' HO_3.out).2.2 | (with_reducible refine Kd.C_alloc ?_ _) | (with_reducible refine Kd.C_drewN ?_ _) | (with_reducible refine Kd.C_drew ?_))); (case side2 => exact (Kd.Q_reads' HO_3.out).2.1); rintro e w31 ⟨rfl, hb⟩; refine ⟨_, rfl, ?_⟩; have n0_ := Aside0.mk (Kd.Q_below (by (with_reducible repeat (first | apply Kd.Q_alloc | apply Kd.Q_drewN | apply Kd.Q_drew)); exact HO_3.out) hb); have n1_ := Aside0.mk (blk_below (g := gb781) (o := .cells #[.slice A0_0 l0_0.length c0_0, .string a0_1] 29 (0, 0)) bk hb); have n2_ := Aside0.mk (below_step bwS hb); clear HO_3; clear BK781; clear HB; have HO_3 := n0_; have BK781 := n1_; have HB := n2_; clear n0_ n1_ n2_; (try clear hb); (try clear hb2); (try clear hk); (try clear hi)) | ((with_reducible refine gate_dst (N := 4) rfl ?_); refine box_event ?hg (N := 4) ?hd (cs := #[.int .i64 0, .int .i64 0, .string (⟨#[]⟩ : ByteArray)]) (t := 63) ?hr ?_; (case hd => rfl); (case hg => rfl); (case hr => first | (go_simp; done) | (go_simp; rfl)); intro gb794 hg w32 hbox hb; have n0_ := Aside0.mk (Kd.Q_below (by (with_reducible repeat (first | apply Kd.Q_alloc | apply Kd.Q_drewN | apply Kd.Q_drew)); exact HO_3.out) hb); have n1_ := Aside0.mk (blk_below (g := gb781) (o := .cells #[.slice A0_0 l0_0.length c0_0, .string a0_1] 29 (0, 0)) bk hb); have n2_ := Aside0.mk (below_step bwS hb); have n3_ := Aside0.mk (hbox); have n4_ := Aside0.mk ((by rw [hg]; exact (below_size bwS) : w.heap.size ≤ gb794)); have n5_ := Aside0.mk ((by rw [hg]; exact (below_size bwS) : w.heap.size ≤ gb794)); have n6_ := Aside0.mk ((by rw [hg]; exact Nat.ne_of_lt (blk_lt (g := gb781) (o := .cells #[.slice A0_0 l0_0.length c0_0, .string a0_1] 29 (0, 0)) bk) : gb781 ≠ gb794)); have n7_ := Aside0.mk ((by rw [hg]; exact Nat.ne_of_gt (blk_lt (g := gb781) (o := .cells #[.slice A0_0 l0_0.length c0_0, .string a0_1] 29 (0, 0)) bk) : gb794 ≠ gb781)); clear HO_3; clear BK781; clear HB; have HO_3 := n0_; have BK781 := n1_; have HB := n2_; have BK794 := n3_; have GW794 := n4_; have GE794 := n5_; have NB781_794 := n6_; have NB794_781 := n7_; clear n0_ n1_ n2_ n3_ n4_ n5_ n6_ n7_; clear hb hbox hg; have hnb33 := NB794_781.out; have hnc33 := NB781_794.out; have hcz34_0 : w32.cell? ⟨gb794, 0, none⟩ = some (.int .i64 0) := (blk_cell BK794.out 0).trans rfl; have hcz34_1 : w32.cell? ⟨gb794, 1, none⟩ = some (.int .i64 0) := (blk_cell BK794.out 1).trans rfl; have hcz34_2 : w32.cell? ⟨gb794, 2, none⟩ = some (.string (⟨#[]⟩ : ByteArray)) := (blk_cell BK794.out 2).trans rfl; have hfz34_0 := blk_frozen BK794.out 0; have hfz34_1 := blk_frozen BK794.out 1; have hfz34_2 := blk_frozen BK794.out 2) | ((with_reducible refine gate_dst (N := 32) rfl ?_); refine Kd.R_lit k63 _ 63 ?hg (N := 32) ?hd (xs := ([(⟨t791, t792, t793⟩ : S63)] : List (S63))) (inner := [.int .i64 t791, .int .i64 t792, .string t793]) (ok := fun _ => True) (okp := fun _ => True) ?hr ?hp (fun _ hk => hk) trivial (Below.refl _ _) (Nat.le_refl _) (by simp) ?_; (case hd => rfl); (case hg => rfl); (case hr => first | (go_simp; done) | (go_simp; rfl)); (case hp => exact (Reps.c3 (show Kd.M k63 _ _ _ (⟨t791, t792, t793⟩ : S63) [.int .i64 t791, .int .i64 t792, .string t793] from (k63_mkM _ _ _ (⟨t791, t792, t793⟩ : S63) )) (Reps.none _ _))); intro v796 w35 ho36 hb hg_ hnew_; clear hg_ hnew_; (first | rw [← Ny795.out] at ho36 | (simp only [Int.reduceToNat] at ho36; rw [← Ny795.out] at ho36)); have n0_ := Aside0.mk (Kd.Q_below (by (with_reducible repeat (first | apply Kd.Q_alloc | apply Kd.Q_drewN | apply Kd.Q_drew)); exact (Kd.Q_mono (Kd.Q_far (p := ⟨gb794, 2, none⟩) (Kd.Q_far (p := ⟨gb794, 1, none⟩) (Kd.Q_far (p := ⟨gb794, 0, none⟩) (Kd.Q_types HO_3.out BK794.out (by decide)) (fun _ hk => hk.2) (.int .i64 t791)) (fun _ hk => hk.2) (.int .i64 t792)) (fun _ hk => hk.2) (.string t793)) (fun _ h_ => h_.1))) hb); have n1_ := Aside0.mk (Kd.R_lower (Kd.R_newB ho36 (g := gb794) (o := .cells #[.int .i64 t791, .int .i64 t792, .string t793] 63 (0, 0)) (by (with_reducible repeat (first | refine blk_drewN ?_ _ | refine blk_drew ?_ | refine blk_alloc ?_ _)); refine blk_put (cs := #[.int .i64 t791, .int .i64 t792, .string (⟨#[]⟩ : ByteArray)]) ?_ 2 _ rfl; (with_reducible repeat (first | refine blk_drewN ?_ _ | refine blk_drew ?_ | refine blk_alloc ?_ _)); refine blk_put (cs := #[.int .i64 t791, .int .i64 0, .string (⟨#[]⟩ : ByteArray)]) ?_ 1 _ rfl; (with_reducible repeat (first | refine blk_drewN ?_ _ | refine blk_drew ?_ | refine blk_alloc ?_ _)); exact blk_put (cs := #[.int .i64 0, .int .i64 0, .string (⟨#[]⟩ : ByteArray)]) bk 0 _ rfl)) (below_size bwS)); have n2_ := Aside0.mk (blk_below (g := gb781) (o := .cells #[.slice A0_0 l0_0.length c0_0, .string a0_1] 29 (0, 0)) (by (with_reducible repeat (first | refine blk_drewN ?_ _ | refine blk_drew ?_ | refine blk_alloc ?_ _)); refine blk_far ?_ NB781_794.out _; (with_reducible repeat (first | refine blk_drewN ?_ _ | refine blk_drew ?_ | refine blk_alloc ?_ _)); refine blk_far ?_ NB781_794.out _; (with_reducible repeat (first | refine blk_drewN ?_ _ | refine blk_drew ?_ | refine blk_alloc ?_ _)); refine blk_far ?_ NB781_794.out _; (with_reducible repeat (first | refine blk_drewN ?_ _ | refine blk_drew ?_ | refine blk_alloc ?_ _)); exact BK781.out) hb); have n3_ := Aside0.mk (blk_below (g := gb794) (o := .cells #[.int .i64 t791, .int .i64 t792, .string t793] 63 (0, 0)) (by (with_reducible repeat (first | refine blk_drewN ?_ _ | refine blk_drew ?_ | refine blk_alloc ?_ _)); refine blk_put (cs := #[.int .i64 t791, .int .i64 t792, .string (⟨#[]⟩ : ByteArray)]) ?_ 2 _ rfl; (with_reducible repeat (first | refine blk_drewN ?_ _ | refine blk_drew ?_ | refine blk_alloc ?_ _)); refine blk_put (cs := #[.int .i64 t791, .int .i64 0, .string (⟨#[]⟩ : ByteArray)]) ?_ 1 _ rfl; (with_reducible repeat (first | refine blk_drewN ?_ _ | refine blk_drew ?_ | refine blk_alloc ?_ _)); exact blk_put (cs := #[.int .i64 0, .int .i64 0, .string (⟨#[]⟩ : ByteArray)]) bk 0 _ rfl) hb); have n4_ := Aside0.mk (below_step bwS hb); clear HO_3; clear BK781; clear BK794; clear HB; have HO_3 := n0_; have HO797 := n1_; have BK781 := n2_; have BK794 := n3_; have HB := n4_; clear n0_ n1_ n2_ n3_ n4_; clear hb ho36))
     go_ret
     exact ⟨_, ew, ra (Kd.R_mono HO797.out (fun _ hk => trivial)), bwS⟩

end Go.Proofs.YtihabmcaplnbcaaGreatDoor.Fn
namespace Go.Proofs.YtihabmcaplnbcaaGreatDoor.Fn
open Go.RowKit Go.Proofs.YtihabmcaplnbcaaGreatDoorW.PrintWords Go.Proofs.YtihabmcaplnbcaaGreatDoorW.PrintLast Go.Proofs.YtihabmcaplnbcaaGreatDoorW.PrintMore
attribute [local go_sem] max2_int min2_int max_two min_two max_three min_three max_four min_four
set_option linter.unusedVariables false
set_option linter.unusedSimpArgs false

mutual
def order_Read.l0 : Nat → List (S63) → Int → List ByteArray → Int → Int → Option ((List (S63)))
 | 0, _, _, _, _, _ => none
 | k + 1, x3, x4, x12, x13, x14 => if x14 < x13 then (if 0 ≤ x14 then (if x14 < (x12.length : Int) then ((order_words.f (rdOf ByteArray.empty x12 x14)).bind fun t806 => (if (x3.length : Int) = 8 then (order_Read.j1 k x3 x4 t806 x12 x13 x14 true) else (order_Read.j1 k x3 x4 t806 x12 x13 x14 (x4 == 3)))) else (none)) else (none)) else (some x3)
def order_Read.j1 : Nat → List (S63) → Int → List ByteArray → List ByteArray → Int → Int → Bool → Option ((List (S63)))
 | 0, _, _, _, _, _, _, _ => none
 | k + 1, x3, x4, x7, x12, x13, x14, x20 => if x20 = true then (some x3) else (if (x7.length : Int) = 0 then (order_Read.j2 k x3 x4 x7 x12 x13 x14 true) else (if 0 < (x7.length : Int) then ((strings_HasPrefix.f (rdOf ByteArray.empty x7 0) (⟨#[62]⟩ : ByteArray)).bind fun t810 => (order_Read.j2 k x3 x4 x7 x12 x13 x14 t810)) else (none)))
def order_Read.j2 : Nat → List (S63) → Int → List ByteArray → List ByteArray → Int → Int → Bool → Option ((List (S63)))
 | 0, _, _, _, _, _, _, _ => none
 | k + 1, x3, x4, x7, x12, x13, x14, x28 => if x28 = true then (order_Read.l0 k x3 x4 x12 x13 (wrap64 (x14 + 1))) else ((order_stops.f x7).bind fun t811 => (if t811 = true then (some x3) else ((order_command.f k x7).bind fun bt812 => (if bt812.1 = 5 then (if x3.length < 4398046511104 then (order_Read.l0 k (x3 ++ [(⟨bt812.1, bt812.2.1, bt812.2.2⟩ : S63)]) (wrap64 (x4 + 1)) x12 x13 (wrap64 (x14 + 1))) else (none)) else (if x3.length < 4398046511104 then (order_Read.l0 k (x3 ++ [(⟨bt812.1, bt812.2.1, bt812.2.2⟩ : S63)]) x4 x12 x13 (wrap64 (x14 + 1))) else (none))))))
end
def order_Read.f (k : Nat) (l0_0 : List (S35)) (a0_1 : ByteArray) : Option ((List (S63))) := (order_subject.f k l0_0 a0_1).bind fun t799 => ((msg_Message_Lines.f k l0_0 a0_1).bind fun t802 => (order_Read.l0 k t799 0 t802 (t802.length : Int) 0))
set_option maxHeartbeats 8000000 in
set_option maxRecDepth 100000 in
theorem order_Read.calls (k : Nat) (A0_0 : Option Addr) (c0_0 : Nat) (l0_0 : List (S35)) (a0_1 : ByteArray) (r : List (S63)) (w : World) (hG : Glob w) (hr0_0 : Kd.C k35 w A0_0 l0_0.length l0_0) (hc0_0 : l0_0.length ≤ c0_0) (h : order_Read.f k l0_0 a0_1 = some r) :
  Calls Tryz.prog 28 #[.agg #[.slice A0_0 l0_0.length c0_0, .string a0_1]] w fun e w' => ∃ v0_ : Value, e = .returned (v0_) ∧ Kd.R k63 63 w' w.heap.size (fun _ => True) v0_ r ∧ Below w.heap.size w w' := by
 have hu29 := Tryz.underlying29; have hu63 := Tryz.underlying63; have HR0_0 := Aside0.mk hr0_0; have HC0_0 := Aside0.mk hc0_0; clear hr0_0 hc0_0; have HB := Aside0.mk (Below.refl w.heap.size w); have H : ((order_subject.f k l0_0 a0_1).bind fun t799 => ((msg_Message_Lines.f k l0_0 a0_1).bind fun t802 => (order_Read.l0 k t799 0 t802 (t802.length : Int) 0))) = some r := h; clear h; replace H := Option.bind_eq_some_iff.mp H; obtain ⟨t799, A20, H⟩ := H; have A2 := Aside0.mk A20; clear A20; replace H := Option.bind_eq_some_iff.mp H; obtain ⟨t802, A30, H⟩ := H; have A3 := Aside0.mk A30; clear A30; have H' := Aside0.mk H; clear H
 go_enter Tryz.func28, Tryz.ntmps28
 go_wp2_with (first | ((with_reducible refine gate_dst (N := 1) rfl ?_); refine box_event ?hg (N := 1) ?hd (cs := #[.slice A0_0 l0_0.length c0_0, .string a0_1]) (t := 29) ?hr ?_; (case hd => rfl); (case hg => rfl); (case hr => first | (go_simp; done) | (go_simp; rfl)); intro gb798 hg w4 hbox hb; have n0_ := Aside0.mk (below_step bw hb); have n1_ := Aside0.mk (hbox); have n2_ := Aside0.mk ((by rw [hg]; exact (below_size bw) : w.heap.size ≤ gb798)); have n3_ := Aside0.mk ((by rw [hg]; exact (below_size bw) : w.heap.size ≤ gb798)); clear HB; have HB := n0_; have BK798 := n1_; have GW798 := n2_; have GE798 := n3_; clear n0_ n1_ n2_ n3_; clear hb hbox hg; have hcz5_0 : w4.cell? ⟨gb798, 0, none⟩ = some (.slice A0_0 l0_0.length c0_0) := (blk_cell BK798.out 0).trans rfl; have hcz5_1 : w4.cell? ⟨gb798, 1, none⟩ = some (.string a0_1) := (blk_cell BK798.out 1).trans rfl; have hfz5_0 := blk_frozen BK798.out 0; have hfz5_1 := blk_frozen BK798.out 1) | ((with_reducible refine gate_callee (f := 54) rfl ?_); refine goesL_ (some 10) rfl rfl Tryz.func54 (by kernel_rfl) rfl #[.agg #[.slice A0_0 l0_0.length c0_0, .string a0_1]] rfl am ?_; (with_reducible refine (order_subject.calls (hG := by first | exact hG | exact Glob.below hG (by first | exact HB.out | (repeat (first | (with_reducible first | exact HB.out | apply below_alloc | apply pw_below_drewN | apply below_drew1 | refine below_set ?_ GE798.out | refine below_set ?_ GE815.out) | exact HB.out))) | exact Glob.drawn hG (d0)) k _ _ l0_0 a0_1 t799 _ ?side1 ?side2 A2.out).mono ?_); (case side1 => repeat (first | exact (Kd.C_below HR0_0.out HB.out) | (with_reducible refine Kd.C_alloc ?_ _) | (with_reducible refine Kd.C_drewN ?_ _) | (with_reducible refine Kd.C_drew ?_))); (case side2 => exact HC0_0.out); rintro e w6 ⟨v800, rfl, ho0, hb⟩; refine ⟨_, rfl, ?_⟩; have n0_ := Aside0.mk (Kd.R_lower ho0 (below_size bwS)); have n1_ := Aside0.mk (blk_below (g := gb798) (o := .cells #[.slice A0_0 l0_0.length c0_0, .string a0_1] 29 (0, 0)) bk hb); have n2_ := Aside0.mk (below_step bwS hb); clear BK798; clear HB; have HO801 := n0_; have BK798 := n1_; have HB := n2_; clear n0_ n1_ n2_; (try clear hb); (try clear hb2); (try clear hk); (try clear hi); (try clear ho0); have hcz7_0 : w6.cell? ⟨gb798, 0, none⟩ = some (.slice A0_0 l0_0.length c0_0) := (blk_cell BK798.out 0).trans rfl; have hcz7_1 : w6.cell? ⟨gb798, 1, none⟩ = some (.string a0_1) := (blk_cell BK798.out 1).trans rfl; have hfz7_0 := blk_frozen BK798.out 0; have hfz7_1 := blk_frozen BK798.out 1) | ((with_reducible refine gate_callee (f := 40) rfl ?_); refine goesL_ (some 12) rfl rfl Tryz.func40 (by kernel_rfl) rfl #[.agg #[.slice A0_0 l0_0.length c0_0, .string a0_1]] rfl am ?_; (with_reducible refine (msg_Message_Lines.calls (hG := by first | exact hG | exact Glob.below hG (by first | exact HB.out | (repeat (first | (with_reducible first | exact HB.out | apply below_alloc | apply pw_below_drewN | apply below_drew1 | refine below_set ?_ GE798.out | refine below_set ?_ GE815.out) | exact HB.out))) | exact Glob.drawn hG (d0)) k _ _ l0_0 a0_1 t802 _ ?side1 ?side2 A3.out).mono ?_); (case side1 => repeat (first | exact (Kd.C_below HR0_0.out HB.out) | (with_reducible refine Kd.C_alloc ?_ _) | (with_reducible refine Kd.C_drewN ?_ _) | (with_reducible refine Kd.C_drew ?_))); (case side2 => exact HC0_0.out); rintro e w8 ⟨v803, rfl, ho0, hb⟩; refine ⟨_, rfl, ?_⟩; have n0_ := Aside0.mk (Kd.R_below (ra HO801.out) hb); have n1_ := Aside0.mk (Kd.R_lower ho0 (below_size bwS)); have n2_ := Aside0.mk (blk_below (g := gb798) (o := .cells #[.slice A0_0 l0_0.length c0_0, .string a0_1] 29 (0, 0)) bk hb); have n3_ := Aside0.mk (below_step bwS hb); clear HO801; clear BK798; clear HB; have HO801 := n0_; have HO804 := n1_; have BK798 := n2_; have HB := n3_; clear n0_ n1_ n2_ n3_; (try clear hb); (try clear hb2); (try clear hk); (try clear hi); (try clear ho0); obtain ⟨Ao9, co9, eo9⟩ := Kd.R_slice HO804.out; subst eo9))
 go_step3
 go_wp2_with (first | ((with_reducible refine gate_dst (N := 1) rfl ?_); refine box_event ?hg (N := 1) ?hd (cs := #[.slice A0_0 l0_0.length c0_0, .string a0_1]) (t := 29) ?hr ?_; (case hd => rfl); (case hg => rfl); (case hr => first | (go_simp; done) | (go_simp; rfl)); intro gb798 hg w4 hbox hb; have n0_ := Aside0.mk (below_step bw hb); have n1_ := Aside0.mk (hbox); have n2_ := Aside0.mk ((by rw [hg]; exact (below_size bw) : w.heap.size ≤ gb798)); have n3_ := Aside0.mk ((by rw [hg]; exact (below_size bw) : w.heap.size ≤ gb798)); clear HB; have HB := n0_; have BK798 := n1_; have GW798 := n2_; have GE798 := n3_; clear n0_ n1_ n2_ n3_; clear hb hbox hg; have hcz5_0 : w4.cell? ⟨gb798, 0, none⟩ = some (.slice A0_0 l0_0.length c0_0) := (blk_cell BK798.out 0).trans rfl; have hcz5_1 : w4.cell? ⟨gb798, 1, none⟩ = some (.string a0_1) := (blk_cell BK798.out 1).trans rfl; have hfz5_0 := blk_frozen BK798.out 0; have hfz5_1 := blk_frozen BK798.out 1) | ((with_reducible refine gate_callee (f := 54) rfl ?_); refine goesL_ (some 10) rfl rfl Tryz.func54 (by kernel_rfl) rfl #[.agg #[.slice A0_0 l0_0.length c0_0, .string a0_1]] rfl am ?_; (with_reducible refine (order_subject.calls (hG := by first | exact hG | exact Glob.below hG (by first | exact HB.out | (repeat (first | (with_reducible first | exact HB.out | apply below_alloc | apply pw_below_drewN | apply below_drew1 | refine below_set ?_ GE798.out | refine below_set ?_ GE815.out) | exact HB.out))) | exact Glob.drawn hG (d0)) k _ _ l0_0 a0_1 t799 _ ?side1 ?side2 A2.out).mono ?_); (case side1 => repeat (first | exact (Kd.C_below HR0_0.out HB.out) | (with_reducible refine Kd.C_alloc ?_ _) | (with_reducible refine Kd.C_drewN ?_ _) | (with_reducible refine Kd.C_drew ?_))); (case side2 => exact HC0_0.out); rintro e w6 ⟨v800, rfl, ho0, hb⟩; refine ⟨_, rfl, ?_⟩; have n0_ := Aside0.mk (Kd.R_lower ho0 (below_size bwS)); have n1_ := Aside0.mk (blk_below (g := gb798) (o := .cells #[.slice A0_0 l0_0.length c0_0, .string a0_1] 29 (0, 0)) bk hb); have n2_ := Aside0.mk (below_step bwS hb); clear BK798; clear HB; have HO801 := n0_; have BK798 := n1_; have HB := n2_; clear n0_ n1_ n2_; (try clear hb); (try clear hb2); (try clear hk); (try clear hi); (try clear ho0); have hcz7_0 : w6.cell? ⟨gb798, 0, none⟩ = some (.slice A0_0 l0_0.length c0_0) := (blk_cell BK798.out 0).trans rfl; have hcz7_1 : w6.cell? ⟨gb798, 1, none⟩ = some (.string a0_1) := (blk_cell BK798.out 1).trans rfl; have hfz7_0 := blk_frozen BK798.out 0; have hfz7_1 := blk_frozen BK798.out 1) | ((with_reducible refine gate_callee (f := 40) rfl ?_); refine goesL_ (some 12) rfl rfl Tryz.func40 (by kernel_rfl) rfl #[.agg #[.slice A0_0 l0_0.length c0_0, .string a0_1]] rfl am ?_; (with_reducible refine (msg_Message_Lines.calls (hG := by first | exact hG | exact Glob.below hG (by first | exact HB.out | (repeat (first | (with_reducible first | exact HB.out | apply below_alloc | apply pw_below_drewN | apply below_drew1 | refine below_set ?_ GE798.out | refine below_set ?_ GE815.out) | exact HB.out))) | exact Glob.drawn hG (d0)) k _ _ l0_0 a0_1 t802 _ ?side1 ?side2 A3.out).mono ?_); (case side1 => repeat (first | exact (Kd.C_below HR0_0.out HB.out) | (with_reducible refine Kd.C_alloc ?_ _) | (with_reducible refine Kd.C_drewN ?_ _) | (with_reducible refine Kd.C_drew ?_))); (case side2 => exact HC0_0.out); rintro e w8 ⟨v803, rfl, ho0, hb⟩; refine ⟨_, rfl, ?_⟩; have n0_ := Aside0.mk (Kd.R_below (ra HO801.out) hb); have n1_ := Aside0.mk (Kd.R_lower ho0 (below_size bwS)); have n2_ := Aside0.mk (blk_below (g := gb798) (o := .cells #[.slice A0_0 l0_0.length c0_0, .string a0_1] 29 (0, 0)) bk hb); have n3_ := Aside0.mk (below_step bwS hb); clear HO801; clear BK798; clear HB; have HO801 := n0_; have HO804 := n1_; have BK798 := n2_; have HB := n3_; clear n0_ n1_ n2_ n3_; (try clear hb); (try clear hb2); (try clear hk); (try clear hi); (try clear ho0); obtain ⟨Ao9, co9, eo9⟩ := Kd.R_slice HO804.out; subst eo9))
 go_step3
 go_wp2_with (first | ((with_reducible refine gate_dst (N := 1) rfl ?_); refine box_event ?hg (N := 1) ?hd (cs := #[.slice A0_0 l0_0.length c0_0, .string a0_1]) (t := 29) ?hr ?_; (case hd => rfl); (case hg => rfl); (case hr => first | (go_simp; done) | (go_simp; rfl)); intro gb798 hg w4 hbox hb; have n0_ := Aside0.mk (below_step bw hb); have n1_ := Aside0.mk (hbox); have n2_ := Aside0.mk ((by rw [hg]; exact (below_size bw) : w.heap.size ≤ gb798)); have n3_ := Aside0.mk ((by rw [hg]; exact (below_size bw) : w.heap.size ≤ gb798)); clear HB; have HB := n0_; have BK798 := n1_; have GW798 := n2_; have GE798 := n3_; clear n0_ n1_ n2_ n3_; clear hb hbox hg; have hcz5_0 : w4.cell? ⟨gb798, 0, none⟩ = some (.slice A0_0 l0_0.length c0_0) := (blk_cell BK798.out 0).trans rfl; have hcz5_1 : w4.cell? ⟨gb798, 1, none⟩ = some (.string a0_1) := (blk_cell BK798.out 1).trans rfl; have hfz5_0 := blk_frozen BK798.out 0; have hfz5_1 := blk_frozen BK798.out 1) | ((with_reducible refine gate_callee (f := 54) rfl ?_); refine goesL_ (some 10) rfl rfl Tryz.func54 (by kernel_rfl) rfl #[.agg #[.slice A0_0 l0_0.length c0_0, .string a0_1]] rfl am ?_; (with_reducible refine (order_subject.calls (hG := by first | exact hG | exact Glob.below hG (by first | exact HB.out | (repeat (first | (with_reducible first | exact HB.out | apply below_alloc | apply pw_below_drewN | apply below_drew1 | refine below_set ?_ GE798.out | refine below_set ?_ GE815.out) | exact HB.out))) | exact Glob.drawn hG (d0)) k _ _ l0_0 a0_1 t799 _ ?side1 ?side2 A2.out).mono ?_); (case side1 => repeat (first | exact (Kd.C_below HR0_0.out HB.out) | (with_reducible refine Kd.C_alloc ?_ _) | (with_reducible refine Kd.C_drewN ?_ _) | (with_reducible refine Kd.C_drew ?_))); (case side2 => exact HC0_0.out); rintro e w6 ⟨v800, rfl, ho0, hb⟩; refine ⟨_, rfl, ?_⟩; have n0_ := Aside0.mk (Kd.R_lower ho0 (below_size bwS)); have n1_ := Aside0.mk (blk_below (g := gb798) (o := .cells #[.slice A0_0 l0_0.length c0_0, .string a0_1] 29 (0, 0)) bk hb); have n2_ := Aside0.mk (below_step bwS hb); clear BK798; clear HB; have HO801 := n0_; have BK798 := n1_; have HB := n2_; clear n0_ n1_ n2_; (try clear hb); (try clear hb2); (try clear hk); (try clear hi); (try clear ho0); have hcz7_0 : w6.cell? ⟨gb798, 0, none⟩ = some (.slice A0_0 l0_0.length c0_0) := (blk_cell BK798.out 0).trans rfl; have hcz7_1 : w6.cell? ⟨gb798, 1, none⟩ = some (.string a0_1) := (blk_cell BK798.out 1).trans rfl; have hfz7_0 := blk_frozen BK798.out 0; have hfz7_1 := blk_frozen BK798.out 1) | ((with_reducible refine gate_callee (f := 40) rfl ?_); refine goesL_ (some 12) rfl rfl Tryz.func40 (by kernel_rfl) rfl #[.agg #[.slice A0_0 l0_0.length c0_0, .string a0_1]] rfl am ?_; (with_reducible refine (msg_Message_Lines.calls (hG := by first | exact hG | exact Glob.below hG (by first | exact HB.out | (repeat (first | (with_reducible first | exact HB.out | apply below_alloc | apply pw_below_drewN | apply below_drew1 | refine below_set ?_ GE798.out | refine below_set ?_ GE815.out) | exact HB.out))) | exact Glob.drawn hG (d0)) k _ _ l0_0 a0_1 t802 _ ?side1 ?side2 A3.out).mono ?_); (case side1 => repeat (first | exact (Kd.C_below HR0_0.out HB.out) | (with_reducible refine Kd.C_alloc ?_ _) | (with_reducible refine Kd.C_drewN ?_ _) | (with_reducible refine Kd.C_drew ?_))); (case side2 => exact HC0_0.out); rintro e w8 ⟨v803, rfl, ho0, hb⟩; refine ⟨_, rfl, ?_⟩; have n0_ := Aside0.mk (Kd.R_below (ra HO801.out) hb); have n1_ := Aside0.mk (Kd.R_lower ho0 (below_size bwS)); have n2_ := Aside0.mk (blk_below (g := gb798) (o := .cells #[.slice A0_0 l0_0.length c0_0, .string a0_1] 29 (0, 0)) bk hb); have n3_ := Aside0.mk (below_step bwS hb); clear HO801; clear BK798; clear HB; have HO801 := n0_; have HO804 := n1_; have BK798 := n2_; have HB := n3_; clear n0_ n1_ n2_ n3_; (try clear hb); (try clear hb2); (try clear hk); (try clear hi); (try clear ho0); obtain ⟨Ao9, co9, eo9⟩ := Kd.R_slice HO804.out; subst eo9))
 go_loopg [3, 4, 14] k (fun kq v3 v4 v14 w' => ∃ (x3_1 : List (S63)) (x4_1 : Int) (x14_1 : Int), v4 = .int .i64 x4_1 ∧ v14 = .int .i64 x14_1 ∧ Aside0 (order_Read.l0 kq x3_1 x4_1 t802 (t802.length : Int) x14_1 = some r) ∧ Aside0 (kq ≤ k) ∧ Aside0 (Kd.R k63 63 w' w.heap.size (fun _ => True) v3 x3_1) ∧ Aside0 (Kd.R Kd.string 9 w' w.heap.size (fun _ => True) (.slice Ao9 t802.length co9) t802) ∧ Aside0 (w'.heap[gb798]? = some (.cells #[(.slice A0_0 l0_0.length c0_0), .string a0_1] 29 (0, 0))) ∧ Aside0 (Below w.heap.size w w'))
 case atStart => exact ⟨(t799), (0), (0), cl, cl, H', ⟨Nat.le_refl _⟩, ⟨ra HO801.out⟩, ⟨ra HO804.out⟩, ⟨bk⟩, ⟨bwS⟩⟩
 case round =>
  clear H'
  try clear c2
  try clear p2
  try clear c4
  try clear c5
  try clear hcz5_0
  try clear hcz5_1
  try clear hcz7_0
  try clear hcz7_1
  try clear hfz5_0
  try clear hfz5_1
  try clear hfz7_0
  try clear hfz7_1
  obtain ⟨x3_1, x4_1, x14_1, rfl, rfl, HA, HK1, HO_3, HO_12, BK798, HB⟩ := hrel; cases gk with
  | zero => exact absurd HA.out (by simp [order_Read.l0])
  | succ k1 =>
   have H := HA.out; clear HA; simp only [order_Read.l0] at H
   by_cases c10 : x14_1 < (t802.length : Int)
   ·rw [if_pos c10] at H; have c10b0 := decide_eq_true c10; clear c10
    by_cases c11 : 0 ≤ x14_1
    ·rw [if_pos c11] at H; have c11b0 := decide_eq_true c11; clear c11
     by_cases c12 : x14_1 < (t802.length : Int)
     ·rw [if_pos c12] at H; have c12b0 := decide_eq_true c12; clear c12; replace H := Option.bind_eq_some_iff.mp H; obtain ⟨t806, A130, H⟩ := H; have A13 := Aside0.mk A130; clear A130; have HC14 := Aside0.mk H; clear H; have p805 : 0 ≤ (x14_1 : Int) := od; have q805 : x14_1 < (t802.length : Int) := od; obtain ⟨ad805, e805, hx805_0⟩ := Kd.at_string (Kd.R_reads' HO_12.out).2.2 x14_1 p805 q805; cases e805; replace p805 := eq_true p805; replace q805 := eq_true q805
      go_upto_region 7 with (first | ((with_reducible refine gate_callee (f := 55) rfl ?_); refine goesL_ (some 19) rfl rfl Tryz.func55 (by kernel_rfl) rfl #[.string (rdOf ByteArray.empty t802 x14_1)] rfl am ?_; (with_reducible refine (order_words.calls (rdOf ByteArray.empty t802 x14_1) t806 _ A13.out).mono ?_); rintro e w15 ⟨v807, rfl, ho0, hb⟩; refine ⟨_, rfl, ?_⟩; have n0_ := Aside0.mk (Kd.R_below (ra HO_3.out) hb); have n1_ := Aside0.mk (Kd.R_elder' (ra HO_12.out) (Kd.R_base ho0) hb); have n2_ := Aside0.mk (Kd.R_lower (Kd.R_new' ho0 (Kd.R_lt (ra HO_12.out))) (below_size bwS)); have n3_ := Aside0.mk (blk_below (g := gb798) (o := .cells #[.slice A0_0 l0_0.length c0_0, .string a0_1] 29 (0, 0)) bk hb); have n4_ := Aside0.mk (below_step bwS hb); clear HO_3; clear HO_12; clear BK798; clear HB; have HO_3 := n0_; have HO_12 := n1_; have HO808 := n2_; have BK798 := n3_; have HB := n4_; clear n0_ n1_ n2_ n3_ n4_; (try clear hb); (try clear hb2); (try clear hk); (try clear hi); (try clear ho0)))
      (try simp only [Act.put, List.setIfInBounds_toArray, List.set_cons_zero, List.set_cons_succ])
      go_cut [20] (fun v20 wc => ∃ (kq : Nat) (x20_13 : Bool), v20 = .bool x20_13 ∧ Aside0 (order_Read.j1 kq x3_1 x4_1 t806 t802 (t802.length : Int) x14_1 x20_13 = some r) ∧ Aside0 (kq ≤ k1) ∧ Aside0 (Kd.R k63 63 wc w.heap.size (fun _ => True) u3 x3_1) ∧ Aside0 (Kd.R Kd.string 9 wc w.heap.size (fun k_ => some k_ ≠ ((.slice (some ad805) t802.length co9) : Value).ownBlock) v807 t806) ∧ Aside0 (Kd.R Kd.string 9 wc w.heap.size (fun k_ => some k_ ≠ (v807 : Value).ownBlock) (.slice (some ad805) t802.length co9) t802) ∧ Aside0 (wc.heap[gb798]? = some (.cells #[(.slice A0_0 l0_0.length c0_0), .string a0_1] 29 (0, 0))) ∧ Aside0 (Below w.heap.size w wc))
      case first =>
       have H := HC14.out; clear HC14
       by_cases c16 : (x3_1.length : Int) = 8
       ·rw [if_pos c16] at H; have c16b0 := beq_iff_eq.mpr c16; have c16b1 := bne_eq_false_iff_eq.mpr c16; clear c16
        (first | rw [c16b0] | (simp only [i64_w, i32_w]; rw [c16b0]) | skip)
        have H' := Aside0.mk H; clear H; obtain ⟨Ao17, co17, eo17⟩ := Kd.R_slice HO_3.out; subst eo17
        go_wp2
        go_meet
        case rel => exact ⟨_, (true), cl, H', ⟨by have := HK1.out; first | omega | exact Nat.le_refl _⟩, ⟨ra HO_3.out⟩, ⟨ra (Kd.R_mono HO808.out (fun _ hk => hk.2))⟩, ⟨ra (Kd.R_mono HO_12.out (fun _ hk => hk.2))⟩, ⟨bk⟩, ⟨bwS⟩⟩
       rw [if_neg c16] at H; have c16b0 := beq_eq_false_iff_ne.mpr c16; have c16b1 := bne_iff_ne.mpr c16
       (first | rw [c16b0] | (simp only [i64_w, i32_w]; rw [c16b0]) | skip)
       have H' := Aside0.mk H; clear H; obtain ⟨Ao18, co18, eo18⟩ := Kd.R_slice HO_3.out; subst eo18
       go_wp2
       go_meet
       case rel => exact ⟨_, ((x4_1 == 3)), cl, H', ⟨by have := HK1.out; first | omega | exact Nat.le_refl _⟩, ⟨ra HO_3.out⟩, ⟨ra (Kd.R_mono HO808.out (fun _ hk => hk.2))⟩, ⟨ra (Kd.R_mono HO_12.out (fun _ hk => hk.2))⟩, ⟨bk⟩, ⟨bwS⟩⟩
      case rest =>
       clear HC14
       try clear c1
       try clear c2
       try clear p2
       try clear c4
       try clear c5
       try clear p8
       try clear q8
       try clear hx8
       try clear c10
       try clear c10b0
       try clear c11
       try clear c11b0
       try clear c12
       try clear c12b0
       try clear c16
       try clear c16b0
       try clear c16b1
       try clear hcz5_0
       try clear hcz5_1
       try clear hcz7_0
       try clear hcz7_1
       try clear hfz5_0
       try clear hfz5_1
       try clear hfz7_0
       try clear hfz7_1
       try clear hx805_0
       try clear p2
       try clear p805
       try clear q805
       obtain ⟨kq, x20_13, rfl, HA, HJ13, HO_3, HO_7, HO_12, BK798, HB⟩ := hcut; cases kq with
       | zero => exact absurd HA.out (by simp [order_Read.j1])
       | succ kj13 =>
        have H := HA.out; clear HA; simp only [order_Read.j1] at H
        by_cases c19 : x20_13 = true
        ·subst c19; rw [if_pos rfl] at H; obtain rfl := Option.some.inj H
         go_wp2
         (try rw [Exit.noGoto_ret])
         go_ret
         exact ⟨_, ew, ra HO_3.out, bwS⟩
        replace c19 := Bool.eq_false_iff.mpr c19; subst c19; rw [if_neg nft] at H; have HC20 := Aside0.mk H; clear H
        go_upto_region 8 with (fail)
        go_cut [28] (fun v28 wc => ∃ (kq : Nat) (x28_19 : Bool), v28 = .bool x28_19 ∧ Aside0 (order_Read.j2 kq x3_1 x4_1 t806 t802 (t802.length : Int) x14_1 x28_19 = some r) ∧ Aside0 (kq ≤ kj13) ∧ Aside0 (Kd.R k63 63 wc w.heap.size (fun _ => True) u3 x3_1) ∧ Aside0 (Kd.R Kd.string 9 wc w.heap.size (fun k_ => some k_ ≠ ((.slice (some ad805) t802.length co9) : Value).ownBlock) v807 t806) ∧ Aside0 (Kd.R Kd.string 9 wc w.heap.size (fun k_ => some k_ ≠ (v807 : Value).ownBlock) (.slice (some ad805) t802.length co9) t802) ∧ Aside0 (wc.heap[gb798]? = some (.cells #[(.slice A0_0 l0_0.length c0_0), .string a0_1] 29 (0, 0))) ∧ Aside0 (Below w.heap.size w wc))
        case first =>
         have H := HC20.out; clear HC20
         by_cases c21 : (t806.length : Int) = 0
         ·rw [if_pos c21] at H; have c21b0 := beq_iff_eq.mpr c21; have c21b1 := bne_eq_false_iff_eq.mpr c21; clear c21
          (first | rw [c21b0] | (simp only [i64_w, i32_w]; rw [c21b0]) | skip)
          have H' := Aside0.mk H; clear H; obtain ⟨Ao22, co22, eo22⟩ := Kd.R_slice HO_7.out; subst eo22
          go_wp2
          go_meet
          case rel => exact ⟨_, (true), cl, H', ⟨by have := HK1.out; have := HJ13.out; first | omega | exact Nat.le_refl _⟩, ⟨ra HO_3.out⟩, ⟨ra HO_7.out⟩, ⟨ra HO_12.out⟩, ⟨bk⟩, ⟨bwS⟩⟩
         rw [if_neg c21] at H; have c21b0 := beq_eq_false_iff_ne.mpr c21; have c21b1 := bne_iff_ne.mpr c21; have c21b2 : ¬ (t806 = []) := fun h_ => c21 (by rw [h_]; rfl)
         (first | rw [c21b0] | (simp only [i64_w, i32_w]; rw [c21b0]) | skip)
         by_cases c23 : 0 < (t806.length : Int)
         ·rw [if_pos c23] at H; have c23b0 := decide_eq_true c23; have c23b1 : decide (0 < t806.length) = true := decide_eq_true (by omega); clear c23; replace H := Option.bind_eq_some_iff.mp H; obtain ⟨t810, A240, H⟩ := H; have A24 := Aside0.mk A240; clear A240; have H' := Aside0.mk H; clear H; obtain ⟨Ao25, co25, eo25⟩ := Kd.R_slice HO_7.out; subst eo25; have p809 : 0 ≤ (0 : Int) := (by omega)
          have q809 : 0 < (t806.length : Int) := od; obtain ⟨ad809, e809, hx809_0⟩ := Kd.at_string (Kd.R_reads' HO_7.out).2.2 0 p809 q809; cases e809; have qi809 : (0 < t806.length) = True := eq_true (by omega)
          (try rw [show ((0 : Int)).toNat = 0 from rfl] at hx809_0)
          (try rw [Addr.add_zero'] at hx809_0)
          replace p809 := eq_true p809; replace q809 := eq_true q809
          go_wp2_with (first | (go_at_call 56; (with_reducible refine (strings_HasPrefix.calls (rdOf ByteArray.empty t806 0) (⟨#[62]⟩ : ByteArray) t810 _ A24.out).mono ?_); rintro e w' ⟨rfl, ⟨nd, rfl⟩⟩))
          go_meet
          case rel => exact ⟨_, (t810), cl, H', ⟨by have := HK1.out; have := HJ13.out; first | omega | exact Nat.le_refl _⟩, ⟨ra HO_3.out⟩, ⟨ra HO_7.out⟩, ⟨ra HO_12.out⟩, ⟨bk⟩, ⟨bwS⟩⟩
         rw [if_neg c23] at H; exact absurd H (by simp)
        case rest =>
         clear HC20
         try clear c1
         try clear c2
         try clear p2
         try clear c4
         try clear c5
         try clear p8
         try clear q8
         try clear hx8
         try clear qi8
         try clear c10
         try clear c10b0
         try clear c11
         try clear c11b0
         try clear c12
         try clear c12b0
         try clear c16
         try clear c16b0
         try clear c16b1
         try clear c19
         try clear c21
         try clear c21b0
         try clear c21b1
         try clear c21b2
         try clear c23
         try clear c23b0
         try clear c23b1
         try clear hcz5_0
         try clear hcz5_1
         try clear hcz7_0
         try clear hcz7_1
         try clear hfz5_0
         try clear hfz5_1
         try clear hfz7_0
         try clear hfz7_1
         try clear hx805_0
         try clear hx809_0
         try clear p2
         try clear p8
         try clear p805
         try clear p809
         try clear q8
         try clear q805
         try clear q809
         obtain ⟨kq, x28_19, rfl, HA, HJ19, HO_3, HO_7, HO_12, BK798, HB⟩ := hcut; cases kq with
         | zero => exact absurd HA.out (by simp [order_Read.j2])
         | succ kj19 =>
          have H := HA.out; clear HA; simp only [order_Read.j2] at H
          by_cases c26 : x28_19 = true
          ·subst c26; rw [if_pos rfl] at H; have H' := Aside0.mk H; clear H
           go_wp2
           go_roundg kj19
           case measure => have := HK1.out; have := HJ13.out; have := HJ19.out; omega
           case rel => exact ⟨(x3_1), (x4_1), (wrap64 (x14_1 + 1)), cl, cl, H', ⟨by have := HK1.out; have := HJ13.out; have := HJ19.out; omega⟩, ⟨ra HO_3.out⟩, ⟨ra (Kd.R_mono HO_12.out (fun _ hk => trivial))⟩, ⟨bk⟩, ⟨bwS⟩⟩
          replace c26 := Bool.eq_false_iff.mpr c26; subst c26; rw [if_neg nft] at H; replace H := Option.bind_eq_some_iff.mp H; obtain ⟨t811, A270, H⟩ := H; have A27 := Aside0.mk A270; clear A270
          by_cases c28 : t811 = true
          ·subst c28; rw [if_pos rfl] at H; obtain rfl := Option.some.inj H; obtain ⟨Ao29, co29, eo29⟩ := Kd.R_slice HO_7.out; subst eo29
           go_wp2_with (first | ((with_reducible refine gate_callee (f := 57) rfl ?_); refine goesL_ (some 40) rfl rfl Tryz.func57 (by kernel_rfl) rfl #[.slice Ao29 t806.length co29] rfl am ?_; (with_reducible refine (order_stops.calls _ _ t806 true _ ?side1 ?side2 A27.out).mono ?_); (case side1 => repeat (first | exact (Kd.R_reads' HO_7.out).2.2 | (with_reducible refine Kd.C_alloc ?_ _) | (with_reducible refine Kd.C_drewN ?_ _) | (with_reducible refine Kd.C_drew ?_))); (case side2 => exact (Kd.R_reads' HO_7.out).2.1); rintro e w' ⟨rfl, ⟨nd, rfl⟩⟩; refine ⟨_, rfl, ?_⟩))
           (try rw [Exit.noGoto_ret])
           go_ret
           exact ⟨_, ew, ra HO_3.out, bwS⟩
          replace c28 := Bool.eq_false_iff.mpr c28; subst c28; rw [if_neg nft] at H; replace H := Option.bind_eq_some_iff.mp H; obtain ⟨⟨t812, t813, t814⟩, A300, H⟩ := H; replace H : (if t812 = 5 then (if x3_1.length < 4398046511104 then (order_Read.l0 kj19 (x3_1 ++ [(⟨t812, t813, t814⟩ : S63)]) (wrap64 (x4_1 + 1)) t802 (t802.length : Int) (wrap64 (x14_1 + 1))) else (none)) else (if x3_1.length < 4398046511104 then (order_Read.l0 kj19 (x3_1 ++ [(⟨t812, t813, t814⟩ : S63)]) x4_1 t802 (t802.length : Int) (wrap64 (x14_1 + 1))) else (none))) = some r := H; have A30 := Aside0.mk A300; clear A300
          by_cases c31 : t812 = 5
          ·rw [if_pos c31] at H; have c31b0 := beq_iff_eq.mpr c31; have c31b1 := bne_eq_false_iff_eq.mpr c31; clear c31
           by_cases c32 : x3_1.length < 4398046511104
           ·rw [if_pos c32] at H; have LMc32 := Aside0.mk c32; clear c32; obtain ⟨y816, hy816⟩ : ∃ y_ : List (S63), y_ = (x3_1 ++ [(⟨t812, t813, t814⟩ : S63)]) := ⟨_, rfl⟩
            replace H : (order_Read.l0 kj19 y816 (wrap64 (x4_1 + 1)) t802 (t802.length : Int) (wrap64 (x14_1 + 1))) = some r := by first | (rw [hy816]; with_reducible exact H) | (have H2_ := (Option.bind_some _ _).symm.trans H; rw [hy816]; with_reducible exact H2_) | (have H2_ := (Option.bind_some _ _).symm.trans H; with_reducible exact H2_) | with_reducible exact H | (rw [hy816]; exact H) | exact H
            have Ny816 := Aside0.mk hy816; clear hy816; have H' := Aside0.mk H; clear H; obtain ⟨Ao33, co33, eo33⟩ := Kd.R_slice HO_7.out; subst eo33
            go_wp2_with (first | ((with_reducible refine gate_callee (f := 57) rfl ?_); refine goesL_ (some 40) rfl rfl Tryz.func57 (by kernel_rfl) rfl #[.slice Ao33 t806.length co33] rfl am ?_; (with_reducible refine (order_stops.calls _ _ t806 false _ ?side1 ?side2 A27.out).mono ?_); (case side1 => repeat (first | exact (Kd.R_reads' HO_7.out).2.2 | (with_reducible refine Kd.C_alloc ?_ _) | (with_reducible refine Kd.C_drewN ?_ _) | (with_reducible refine Kd.C_drew ?_))); (case side2 => exact (Kd.R_reads' HO_7.out).2.1); rintro e w' ⟨rfl, ⟨nd, rfl⟩⟩; refine ⟨_, rfl, ?_⟩; (try (rw [drewN_self wc]; generalize hq_ : World.drewN wc _ = wc; have n0_ : Aside0 (Kd.R Kd.string 9 wc w.heap.size (fun k_ => some k_ ≠ (.slice Ao33 t806.length co33 : Value).ownBlock) (.slice (some ad805) t802.length co9) t802) := ⟨by rw [← hq_]; exact (ra HO_12.out)⟩; have n1_ : Aside0 (Kd.R k63 63 wc w.heap.size (fun _ => True) u3 x3_1) := ⟨by rw [← hq_]; exact (ra HO_3.out)⟩; have n2_ : Aside0 (Kd.R Kd.string 9 wc w.heap.size (fun k_ => some k_ ≠ (.slice (some ad805) t802.length co9 : Value).ownBlock) (.slice Ao33 t806.length co33) t806) := ⟨by rw [← hq_]; exact (ra HO_7.out)⟩; have n3_ : Aside0 (wc.heap[gb798]? = some (.cells #[.slice A0_0 l0_0.length c0_0, .string a0_1] 29 (0, 0))) := ⟨by rw [← hq_]; exact bk⟩; have n4_ : Aside0 (Below w.heap.size w wc) := ⟨by rw [← hq_]; exact bwS⟩; clear HO_12 HO_3 HO_7 BK798 HB hq_; have HO_12 := n0_; have HO_3 := n1_; have HO_7 := n2_; have BK798 := n3_; have HB := n4_; clear n0_ n1_ n2_ n3_ n4_))) | ((with_reducible refine gate_callee (f := 58) rfl ?_); refine goesL_ (some 42) rfl rfl Tryz.func58 (by kernel_rfl) rfl #[.slice Ao33 t806.length co33] rfl am ?_; (with_reducible refine (order_command.calls kj19 _ _ t806 t812 t813 t814 _ ?side1 ?side2 A30.out).mono ?_); (case side1 => repeat (first | exact (Kd.R_reads' HO_7.out).2.2 | (with_reducible refine Kd.C_alloc ?_ _) | (with_reducible refine Kd.C_drewN ?_ _) | (with_reducible refine Kd.C_drew ?_))); (case side2 => exact (Kd.R_reads' HO_7.out).2.1); rintro e w34 ⟨rfl, hb⟩; refine ⟨_, rfl, ?_⟩; have n0_ := Aside0.mk (Kd.R_below (ra HO_3.out) hb); have n1_ := Aside0.mk (Kd.R_below (ra HO_7.out) hb); have n2_ := Aside0.mk (Kd.R_below (ra HO_12.out) hb); have n3_ := Aside0.mk (blk_below (g := gb798) (o := .cells #[.slice A0_0 l0_0.length c0_0, .string a0_1] 29 (0, 0)) bk hb); have n4_ := Aside0.mk (below_step bwS hb); clear HO_3; clear HO_7; clear HO_12; clear BK798; clear HB; have HO_3 := n0_; have HO_7 := n1_; have HO_12 := n2_; have BK798 := n3_; have HB := n4_; clear n0_ n1_ n2_ n3_ n4_; (try clear hb); (try clear hb2); (try clear hk); (try clear hi)) | ((with_reducible refine gate_dst (N := 8) rfl ?_); refine box_event ?hg (N := 8) ?hd (cs := #[.int .i64 0, .int .i64 0, .string (⟨#[]⟩ : ByteArray)]) (t := 63) ?hr ?_; (case hd => rfl); (case hg => rfl); (case hr => first | (go_simp; done) | (go_simp; rfl)); intro gb815 hg w35 hbox hb; have n0_ := Aside0.mk (Kd.R_below (Kd.R_elderB (ra HO_3.out) gb815 (Nat.le_of_eq hg.symm)) hb); have n1_ := Aside0.mk (Kd.R_below (ra HO_7.out) hb); have n2_ := Aside0.mk (Kd.R_below (ra HO_12.out) hb); have n3_ := Aside0.mk (blk_below (g := gb798) (o := .cells #[.slice A0_0 l0_0.length c0_0, .string a0_1] 29 (0, 0)) bk hb); have n4_ := Aside0.mk (below_step bwS hb); have n5_ := Aside0.mk (hbox); have n6_ := Aside0.mk ((by rw [hg]; exact (below_size bwS) : w.heap.size ≤ gb815)); have n7_ := Aside0.mk ((by rw [hg]; exact (below_size bwS) : w.heap.size ≤ gb815)); have n8_ := Aside0.mk ((by rw [hg]; exact Nat.ne_of_lt (blk_lt (g := gb798) (o := .cells #[.slice A0_0 l0_0.length c0_0, .string a0_1] 29 (0, 0)) bk) : gb798 ≠ gb815)); have n9_ := Aside0.mk ((by rw [hg]; exact Nat.ne_of_gt (blk_lt (g := gb798) (o := .cells #[.slice A0_0 l0_0.length c0_0, .string a0_1] 29 (0, 0)) bk) : gb815 ≠ gb798)); clear HO_3; clear HO_7; clear HO_12; clear BK798; clear HB; have HO_3 := n0_; have HO_7 := n1_; have HO_12 := n2_; have BK798 := n3_; have HB := n4_; have BK815 := n5_; have GW815 := n6_; have GE815 := n7_; have NB798_815 := n8_; have NB815_798 := n9_; clear n0_ n1_ n2_ n3_ n4_ n5_ n6_ n7_ n8_ n9_; clear hb hbox hg; have hnb36 := NB815_798.out; have hnc36 := NB798_815.out; have hcz37_0 : w35.cell? ⟨gb815, 0, none⟩ = some (.int .i64 0) := (blk_cell BK815.out 0).trans rfl; have hcz37_1 : w35.cell? ⟨gb815, 1, none⟩ = some (.int .i64 0) := (blk_cell BK815.out 1).trans rfl; have hcz37_2 : w35.cell? ⟨gb815, 2, none⟩ = some (.string (⟨#[]⟩ : ByteArray)) := (blk_cell BK815.out 2).trans rfl; have hfz37_0 := blk_frozen BK815.out 0; have hfz37_1 := blk_frozen BK815.out 1; have hfz37_2 := blk_frozen BK815.out 2) | ((with_reducible refine gate_builtin (b := .append) (xs := #[.tmp 48, .tmp 50]) rfl ?_); at_builtin; refine Kd.R_append k63 (w0 := w) w.heap.size rfl (.tmp 48) (.tmp 50) 58 63 (.agg #[(.int .i64 0), (.int .i64 0), (.string ⟨#[]⟩)]) 32 rfl Tryz.underlying58 info63 rfl (by decide) (by omega) u3 x3_1 (⟨t812, t813, t814⟩ : S63) [.int .i64 t812, .int .i64 t813, .string t814] (fun k_ => k_ ≠ gb815) (fun _ => False) rfl (by first | (go_simp; done) | (go_simp; rfl)) ?aP (fun _ hk => hk.elim) ?aF ?aO ?aB ?aS ?aL ?_; (case aP => exact k63_mkM _ _ _ (⟨t812, t813, t814⟩ : S63)); (case aB => exact bwS); (case aF => exact (fun k_ hk => Kd.freshB (g := gb815) (o := .cells #[.int .i64 t812, .int .i64 t813, .string t814] 63 (0, 0)) (by (with_reducible repeat (first | refine blk_drewN ?_ _ | refine blk_drew ?_ | refine blk_alloc ?_ _)); refine blk_put (cs := #[.int .i64 t812, .int .i64 t813, .string (⟨#[]⟩ : ByteArray)]) ?_ 2 _ rfl; (with_reducible repeat (first | refine blk_drewN ?_ _ | refine blk_drew ?_ | refine blk_alloc ?_ _)); refine blk_put (cs := #[.int .i64 t812, .int .i64 0, .string (⟨#[]⟩ : ByteArray)]) ?_ 1 _ rfl; (with_reducible repeat (first | refine blk_drewN ?_ _ | refine blk_drew ?_ | refine blk_alloc ?_ _)); exact blk_put (cs := #[.int .i64 0, .int .i64 0, .string (⟨#[]⟩ : ByteArray)]) bk 0 _ rfl) k_ hk)); (case aO => exact (ra (Kd.R_mono (Kd.R_far (p := ⟨gb815, 2, none⟩) (Kd.R_far (p := ⟨gb815, 1, none⟩) (Kd.R_far (p := ⟨gb815, 0, none⟩) (Kd.R_mono HO_3.out (fun k_ hk => (⟨hk, hk.2⟩ : _ ∧ k_ ≠ gb815))) (fun _ hk => hk.2) (.int .i64 t812)) (fun _ hk => hk.2) (.int .i64 t813)) (fun _ hk => hk.2) (.string t814)) (fun _ hk => hk.1.2)))); (case aS => exact (below_size bwS)); (case aL => have := LMc32.out; omega); intro v817 w38 ho hb hg hat; rw [← Ny816.out] at ho; have n0_ := Aside0.mk (Kd.R_over' (by (with_reducible repeat (first | apply Kd.R_alloc | apply Kd.R_drewN | apply Kd.R_drew)); exact (Kd.R_mono (Kd.R_far (p := ⟨gb815, 2, none⟩) (Kd.R_far (p := ⟨gb815, 1, none⟩) (Kd.R_far (p := ⟨gb815, 0, none⟩) (Kd.R_types HO_7.out BK815.out (by decide)) (fun _ hk => hk.2) (.int .i64 t812)) (fun _ hk => hk.2) (.int .i64 t813)) (fun _ hk => hk.2) (.string t814)) (fun _ h_ => h_.1))) (Kd.R_typed (ra ((Kd.R_mono (Kd.R_far (p := ⟨gb815, 2, none⟩) (Kd.R_far (p := ⟨gb815, 1, none⟩) (Kd.R_far (p := ⟨gb815, 0, none⟩) (Kd.R_mono HO_3.out (fun k_ hk => (⟨hk, hk.2⟩ : _ ∧ k_ ≠ gb815))) (fun _ hk => hk.2) (.int .i64 t812)) (fun _ hk => hk.2) (.int .i64 t813)) (fun _ hk => hk.2) (.string t814)) (fun _ h_ => h_.1))))) (by decide) hg); have n1_ := Aside0.mk (Kd.R_over' (by (with_reducible repeat (first | apply Kd.R_alloc | apply Kd.R_drewN | apply Kd.R_drew)); exact (Kd.R_mono (Kd.R_far (p := ⟨gb815, 2, none⟩) (Kd.R_far (p := ⟨gb815, 1, none⟩) (Kd.R_far (p := ⟨gb815, 0, none⟩) (Kd.R_types HO_12.out BK815.out (by decide)) (fun _ hk => hk.2) (.int .i64 t812)) (fun _ hk => hk.2) (.int .i64 t813)) (fun _ hk => hk.2) (.string t814)) (fun _ h_ => h_.1))) (Kd.R_typed (ra ((Kd.R_mono (Kd.R_far (p := ⟨gb815, 2, none⟩) (Kd.R_far (p := ⟨gb815, 1, none⟩) (Kd.R_far (p := ⟨gb815, 0, none⟩) (Kd.R_mono HO_3.out (fun k_ hk => (⟨hk, hk.2⟩ : _ ∧ k_ ≠ gb815))) (fun _ hk => hk.2) (.int .i64 t812)) (fun _ hk => hk.2) (.int .i64 t813)) (fun _ hk => hk.2) (.string t814)) (fun _ h_ => h_.1))))) (by decide) hg); have n2_ := Aside0.mk (blk_grown (g := gb798) (o := .cells #[.slice A0_0 l0_0.length c0_0, .string a0_1] 29 (0, 0)) (by (with_reducible repeat (first | refine blk_drewN ?_ _ | refine blk_drew ?_ | refine blk_alloc ?_ _)); refine blk_far ?_ NB798_815.out _; (with_reducible repeat (first | refine blk_drewN ?_ _ | refine blk_drew ?_ | refine blk_alloc ?_ _)); refine blk_far ?_ NB798_815.out _; (with_reducible repeat (first | refine blk_drewN ?_ _ | refine blk_drew ?_ | refine blk_alloc ?_ _)); refine blk_far ?_ NB798_815.out _; (with_reducible repeat (first | refine blk_drewN ?_ _ | refine blk_drew ?_ | refine blk_alloc ?_ _)); exact BK798.out) hg (Kd.R_ne HO_3.out BK798.out (by decide))); have n3_ := Aside0.mk (blk_grown (g := gb815) (o := .cells #[.int .i64 t812, .int .i64 t813, .string t814] 63 (0, 0)) (by (with_reducible repeat (first | refine blk_drewN ?_ _ | refine blk_drew ?_ | refine blk_alloc ?_ _)); refine blk_put (cs := #[.int .i64 t812, .int .i64 t813, .string (⟨#[]⟩ : ByteArray)]) ?_ 2 _ rfl; (with_reducible repeat (first | refine blk_drewN ?_ _ | refine blk_drew ?_ | refine blk_alloc ?_ _)); refine blk_put (cs := #[.int .i64 t812, .int .i64 0, .string (⟨#[]⟩ : ByteArray)]) ?_ 1 _ rfl; (with_reducible repeat (first | refine blk_drewN ?_ _ | refine blk_drew ?_ | refine blk_alloc ?_ _)); exact blk_put (cs := #[.int .i64 0, .int .i64 0, .string (⟨#[]⟩ : ByteArray)]) bk 0 _ rfl) hg (Kd.R_away HO_3.out (fun _ hk => hk.2))); have n4_ := Aside0.mk (hb); have n5_ := Aside0.mk (ho); clear HO_7; clear HO_12; clear BK798; clear BK815; clear HB; clear HO_3; have HO_7 := n0_; have HO_12 := n1_; have BK798 := n2_; have BK815 := n3_; have HB := n4_; have HO818 := n5_; clear n0_ n1_ n2_ n3_ n4_ n5_; clear ho hb hg hat))
            go_roundg kj19
            case measure => have := HK1.out; have := HJ13.out; have := HJ19.out; omega
            case rel => exact ⟨(y816), (wrap64 (x4_1 + 1)), (wrap64 (x14_1 + 1)), cl, cl, H', ⟨by have := HK1.out; have := HJ13.out; have := HJ19.out; omega⟩, ⟨ra (Kd.R_mono HO818.out (fun _ hk => trivial))⟩, ⟨ra (Kd.R_mono HO_12.out (fun _ hk => trivial))⟩, ⟨bk⟩, ⟨bwS⟩⟩
           rw [if_neg c32] at H; exact absurd H (by simp)
          rw [if_neg c31] at H; have c31b0 := beq_eq_false_iff_ne.mpr c31; have c31b1 := bne_iff_ne.mpr c31
          by_cases c39 : x3_1.length < 4398046511104
          ·rw [if_pos c39] at H; have LMc39 := Aside0.mk c39; clear c39; obtain ⟨y819, hy819⟩ : ∃ y_ : List (S63), y_ = (x3_1 ++ [(⟨t812, t813, t814⟩ : S63)]) := ⟨_, rfl⟩
           replace H : (order_Read.l0 kj19 y819 x4_1 t802 (t802.length : Int) (wrap64 (x14_1 + 1))) = some r := by first | (rw [hy819]; with_reducible exact H) | (have H2_ := (Option.bind_some _ _).symm.trans H; rw [hy819]; with_reducible exact H2_) | (have H2_ := (Option.bind_some _ _).symm.trans H; with_reducible exact H2_) | with_reducible exact H | (rw [hy819]; exact H) | exact H
           have Ny819 := Aside0.mk hy819; clear hy819; have H' := Aside0.mk H; clear H; obtain ⟨Ao40, co40, eo40⟩ := Kd.R_slice HO_7.out; subst eo40
           go_wp2_with (first | ((with_reducible refine gate_callee (f := 57) rfl ?_); refine goesL_ (some 40) rfl rfl Tryz.func57 (by kernel_rfl) rfl #[.slice Ao40 t806.length co40] rfl am ?_; (with_reducible refine (order_stops.calls _ _ t806 false _ ?side1 ?side2 A27.out).mono ?_); (case side1 => repeat (first | exact (Kd.R_reads' HO_7.out).2.2 | (with_reducible refine Kd.C_alloc ?_ _) | (with_reducible refine Kd.C_drewN ?_ _) | (with_reducible refine Kd.C_drew ?_))); (case side2 => exact (Kd.R_reads' HO_7.out).2.1); rintro e w' ⟨rfl, ⟨nd, rfl⟩⟩; refine ⟨_, rfl, ?_⟩; (try (rw [drewN_self wc]; generalize hq_ : World.drewN wc _ = wc; have n0_ : Aside0 (Kd.R Kd.string 9 wc w.heap.size (fun k_ => some k_ ≠ (.slice Ao40 t806.length co40 : Value).ownBlock) (.slice (some ad805) t802.length co9) t802) := ⟨by rw [← hq_]; exact (ra HO_12.out)⟩; have n1_ : Aside0 (Kd.R k63 63 wc w.heap.size (fun _ => True) u3 x3_1) := ⟨by rw [← hq_]; exact (ra HO_3.out)⟩; have n2_ : Aside0 (Kd.R Kd.string 9 wc w.heap.size (fun k_ => some k_ ≠ (.slice (some ad805) t802.length co9 : Value).ownBlock) (.slice Ao40 t806.length co40) t806) := ⟨by rw [← hq_]; exact (ra HO_7.out)⟩; have n3_ : Aside0 (wc.heap[gb798]? = some (.cells #[.slice A0_0 l0_0.length c0_0, .string a0_1] 29 (0, 0))) := ⟨by rw [← hq_]; exact bk⟩; have n4_ : Aside0 (Below w.heap.size w wc) := ⟨by rw [← hq_]; exact bwS⟩; clear HO_12 HO_3 HO_7 BK798 HB hq_; have HO_12 := n0_; have HO_3 := n1_; have HO_7 := n2_; have BK798 := n3_; have HB := n4_; clear n0_ n1_ n2_ n3_ n4_))) | ((with_reducible refine gate_callee (f := 58) rfl ?_); refine goesL_ (some 42) rfl rfl Tryz.func58 (by kernel_rfl) rfl #[.slice Ao40 t806.length co40] rfl am ?_; (with_reducible refine (order_command.calls kj19 _ _ t806 t812 t813 t814 _ ?side1 ?side2 A30.out).mono ?_); (case side1 => repeat (first | exact (Kd.R_reads' HO_7.out).2.2 | (with_reducible refine Kd.C_alloc ?_ _) | (with_reducible refine Kd.C_drewN ?_ _) | (with_reducible refine Kd.C_drew ?_))); (case side2 => exact (Kd.R_reads' HO_7.out).2.1); rintro e w41 ⟨rfl, hb⟩; refine ⟨_, rfl, ?_⟩; have n0_ := Aside0.mk (Kd.R_below (ra HO_3.out) hb); have n1_ := Aside0.mk (Kd.R_below (ra HO_7.out) hb); have n2_ := Aside0.mk (Kd.R_below (ra HO_12.out) hb); have n3_ := Aside0.mk (blk_below (g := gb798) (o := .cells #[.slice A0_0 l0_0.length c0_0, .string a0_1] 29 (0, 0)) bk hb); have n4_ := Aside0.mk (below_step bwS hb); clear HO_3; clear HO_7; clear HO_12; clear BK798; clear HB; have HO_3 := n0_; have HO_7 := n1_; have HO_12 := n2_; have BK798 := n3_; have HB := n4_; clear n0_ n1_ n2_ n3_ n4_; (try clear hb); (try clear hb2); (try clear hk); (try clear hi)) | ((with_reducible refine gate_dst (N := 8) rfl ?_); refine box_event ?hg (N := 8) ?hd (cs := #[.int .i64 0, .int .i64 0, .string (⟨#[]⟩ : ByteArray)]) (t := 63) ?hr ?_; (case hd => rfl); (case hg => rfl); (case hr => first | (go_simp; done) | (go_simp; rfl)); intro gb815 hg w42 hbox hb; have n0_ := Aside0.mk (Kd.R_below (Kd.R_elderB (ra HO_3.out) gb815 (Nat.le_of_eq hg.symm)) hb); have n1_ := Aside0.mk (Kd.R_below (ra HO_7.out) hb); have n2_ := Aside0.mk (Kd.R_below (ra HO_12.out) hb); have n3_ := Aside0.mk (blk_below (g := gb798) (o := .cells #[.slice A0_0 l0_0.length c0_0, .string a0_1] 29 (0, 0)) bk hb); have n4_ := Aside0.mk (below_step bwS hb); have n5_ := Aside0.mk (hbox); have n6_ := Aside0.mk ((by rw [hg]; exact (below_size bwS) : w.heap.size ≤ gb815)); have n7_ := Aside0.mk ((by rw [hg]; exact (below_size bwS) : w.heap.size ≤ gb815)); have n8_ := Aside0.mk ((by rw [hg]; exact Nat.ne_of_lt (blk_lt (g := gb798) (o := .cells #[.slice A0_0 l0_0.length c0_0, .string a0_1] 29 (0, 0)) bk) : gb798 ≠ gb815)); have n9_ := Aside0.mk ((by rw [hg]; exact Nat.ne_of_gt (blk_lt (g := gb798) (o := .cells #[.slice A0_0 l0_0.length c0_0, .string a0_1] 29 (0, 0)) bk) : gb815 ≠ gb798)); clear HO_3; clear HO_7; clear HO_12; clear BK798; clear HB; have HO_3 := n0_; have HO_7 := n1_; have HO_12 := n2_; have BK798 := n3_; have HB := n4_; have BK815 := n5_; have GW815 := n6_; have GE815 := n7_; have NB798_815 := n8_; have NB815_798 := n9_; clear n0_ n1_ n2_ n3_ n4_ n5_ n6_ n7_ n8_ n9_; clear hb hbox hg; have hnb43 := NB815_798.out; have hnc43 := NB798_815.out; have hcz44_0 : w42.cell? ⟨gb815, 0, none⟩ = some (.int .i64 0) := (blk_cell BK815.out 0).trans rfl; have hcz44_1 : w42.cell? ⟨gb815, 1, none⟩ = some (.int .i64 0) := (blk_cell BK815.out 1).trans rfl; have hcz44_2 : w42.cell? ⟨gb815, 2, none⟩ = some (.string (⟨#[]⟩ : ByteArray)) := (blk_cell BK815.out 2).trans rfl; have hfz44_0 := blk_frozen BK815.out 0; have hfz44_1 := blk_frozen BK815.out 1; have hfz44_2 := blk_frozen BK815.out 2) | ((with_reducible refine gate_builtin (b := .append) (xs := #[.tmp 48, .tmp 50]) rfl ?_); at_builtin; refine Kd.R_append k63 (w0 := w) w.heap.size rfl (.tmp 48) (.tmp 50) 58 63 (.agg #[(.int .i64 0), (.int .i64 0), (.string ⟨#[]⟩)]) 32 rfl Tryz.underlying58 info63 rfl (by decide) (by omega) u3 x3_1 (⟨t812, t813, t814⟩ : S63) [.int .i64 t812, .int .i64 t813, .string t814] (fun k_ => k_ ≠ gb815) (fun _ => False) rfl (by first | (go_simp; done) | (go_simp; rfl)) ?aP (fun _ hk => hk.elim) ?aF ?aO ?aB ?aS ?aL ?_; (case aP => exact k63_mkM _ _ _ (⟨t812, t813, t814⟩ : S63)); (case aB => exact bwS); (case aF => exact (fun k_ hk => Kd.freshB (g := gb815) (o := .cells #[.int .i64 t812, .int .i64 t813, .string t814] 63 (0, 0)) (by (with_reducible repeat (first | refine blk_drewN ?_ _ | refine blk_drew ?_ | refine blk_alloc ?_ _)); refine blk_put (cs := #[.int .i64 t812, .int .i64 t813, .string (⟨#[]⟩ : ByteArray)]) ?_ 2 _ rfl; (with_reducible repeat (first | refine blk_drewN ?_ _ | refine blk_drew ?_ | refine blk_alloc ?_ _)); refine blk_put (cs := #[.int .i64 t812, .int .i64 0, .string (⟨#[]⟩ : ByteArray)]) ?_ 1 _ rfl; (with_reducible repeat (first | refine blk_drewN ?_ _ | refine blk_drew ?_ | refine blk_alloc ?_ _)); exact blk_put (cs := #[.int .i64 0, .int .i64 0, .string (⟨#[]⟩ : ByteArray)]) bk 0 _ rfl) k_ hk)); (case aO => exact (ra (Kd.R_mono (Kd.R_far (p := ⟨gb815, 2, none⟩) (Kd.R_far (p := ⟨gb815, 1, none⟩) (Kd.R_far (p := ⟨gb815, 0, none⟩) (Kd.R_mono HO_3.out (fun k_ hk => (⟨hk, hk.2⟩ : _ ∧ k_ ≠ gb815))) (fun _ hk => hk.2) (.int .i64 t812)) (fun _ hk => hk.2) (.int .i64 t813)) (fun _ hk => hk.2) (.string t814)) (fun _ hk => hk.1.2)))); (case aS => exact (below_size bwS)); (case aL => have := LMc39.out; omega); intro v820 w45 ho hb hg hat; rw [← Ny819.out] at ho; have n0_ := Aside0.mk (Kd.R_over' (by (with_reducible repeat (first | apply Kd.R_alloc | apply Kd.R_drewN | apply Kd.R_drew)); exact (Kd.R_mono (Kd.R_far (p := ⟨gb815, 2, none⟩) (Kd.R_far (p := ⟨gb815, 1, none⟩) (Kd.R_far (p := ⟨gb815, 0, none⟩) (Kd.R_types HO_7.out BK815.out (by decide)) (fun _ hk => hk.2) (.int .i64 t812)) (fun _ hk => hk.2) (.int .i64 t813)) (fun _ hk => hk.2) (.string t814)) (fun _ h_ => h_.1))) (Kd.R_typed (ra ((Kd.R_mono (Kd.R_far (p := ⟨gb815, 2, none⟩) (Kd.R_far (p := ⟨gb815, 1, none⟩) (Kd.R_far (p := ⟨gb815, 0, none⟩) (Kd.R_mono HO_3.out (fun k_ hk => (⟨hk, hk.2⟩ : _ ∧ k_ ≠ gb815))) (fun _ hk => hk.2) (.int .i64 t812)) (fun _ hk => hk.2) (.int .i64 t813)) (fun _ hk => hk.2) (.string t814)) (fun _ h_ => h_.1))))) (by decide) hg); have n1_ := Aside0.mk (Kd.R_over' (by (with_reducible repeat (first | apply Kd.R_alloc | apply Kd.R_drewN | apply Kd.R_drew)); exact (Kd.R_mono (Kd.R_far (p := ⟨gb815, 2, none⟩) (Kd.R_far (p := ⟨gb815, 1, none⟩) (Kd.R_far (p := ⟨gb815, 0, none⟩) (Kd.R_types HO_12.out BK815.out (by decide)) (fun _ hk => hk.2) (.int .i64 t812)) (fun _ hk => hk.2) (.int .i64 t813)) (fun _ hk => hk.2) (.string t814)) (fun _ h_ => h_.1))) (Kd.R_typed (ra ((Kd.R_mono (Kd.R_far (p := ⟨gb815, 2, none⟩) (Kd.R_far (p := ⟨gb815, 1, none⟩) (Kd.R_far (p := ⟨gb815, 0, none⟩) (Kd.R_mono HO_3.out (fun k_ hk => (⟨hk, hk.2⟩ : _ ∧ k_ ≠ gb815))) (fun _ hk => hk.2) (.int .i64 t812)) (fun _ hk => hk.2) (.int .i64 t813)) (fun _ hk => hk.2) (.string t814)) (fun _ h_ => h_.1))))) (by decide) hg); have n2_ := Aside0.mk (blk_grown (g := gb798) (o := .cells #[.slice A0_0 l0_0.length c0_0, .string a0_1] 29 (0, 0)) (by (with_reducible repeat (first | refine blk_drewN ?_ _ | refine blk_drew ?_ | refine blk_alloc ?_ _)); refine blk_far ?_ NB798_815.out _; (with_reducible repeat (first | refine blk_drewN ?_ _ | refine blk_drew ?_ | refine blk_alloc ?_ _)); refine blk_far ?_ NB798_815.out _; (with_reducible repeat (first | refine blk_drewN ?_ _ | refine blk_drew ?_ | refine blk_alloc ?_ _)); refine blk_far ?_ NB798_815.out _; (with_reducible repeat (first | refine blk_drewN ?_ _ | refine blk_drew ?_ | refine blk_alloc ?_ _)); exact BK798.out) hg (Kd.R_ne HO_3.out BK798.out (by decide))); have n3_ := Aside0.mk (blk_grown (g := gb815) (o := .cells #[.int .i64 t812, .int .i64 t813, .string t814] 63 (0, 0)) (by (with_reducible repeat (first | refine blk_drewN ?_ _ | refine blk_drew ?_ | refine blk_alloc ?_ _)); refine blk_put (cs := #[.int .i64 t812, .int .i64 t813, .string (⟨#[]⟩ : ByteArray)]) ?_ 2 _ rfl; (with_reducible repeat (first | refine blk_drewN ?_ _ | refine blk_drew ?_ | refine blk_alloc ?_ _)); refine blk_put (cs := #[.int .i64 t812, .int .i64 0, .string (⟨#[]⟩ : ByteArray)]) ?_ 1 _ rfl; (with_reducible repeat (first | refine blk_drewN ?_ _ | refine blk_drew ?_ | refine blk_alloc ?_ _)); exact blk_put (cs := #[.int .i64 0, .int .i64 0, .string (⟨#[]⟩ : ByteArray)]) bk 0 _ rfl) hg (Kd.R_away HO_3.out (fun _ hk => hk.2))); have n4_ := Aside0.mk (hb); have n5_ := Aside0.mk (ho); clear HO_7; clear HO_12; clear BK798; clear BK815; clear HB; clear HO_3; have HO_7 := n0_; have HO_12 := n1_; have BK798 := n2_; have BK815 := n3_; have HB := n4_; have HO821 := n5_; clear n0_ n1_ n2_ n3_ n4_ n5_; clear ho hb hg hat))
           go_roundg kj19
           case measure => have := HK1.out; have := HJ13.out; have := HJ19.out; omega
           case rel => exact ⟨(y819), (x4_1), (wrap64 (x14_1 + 1)), cl, cl, H', ⟨by have := HK1.out; have := HJ13.out; have := HJ19.out; omega⟩, ⟨ra (Kd.R_mono HO821.out (fun _ hk => trivial))⟩, ⟨ra (Kd.R_mono HO_12.out (fun _ hk => trivial))⟩, ⟨bk⟩, ⟨bwS⟩⟩
          rw [if_neg c39] at H; exact absurd H (by simp)
     rw [if_neg c12] at H; exact absurd H (by simp)
    rw [if_neg c11] at H; exact absurd H (by simp)
   rw [if_neg c10] at H; have c10b0 := decide_eq_false c10; clear c10; obtain rfl := Option.some.inj H
   go_wp2
   (try rw [Exit.noGoto_ret])
   go_ret
   exact ⟨_, ew, ra HO_3.out, bwS⟩

end Go.Proofs.YtihabmcaplnbcaaGreatDoor.Fn
namespace Go.Proofs.YtihabmcaplnbcaaGreatDoor.Fn
open Go.RowKit Go.Proofs.YtihabmcaplnbcaaGreatDoorW.PrintWords Go.Proofs.YtihabmcaplnbcaaGreatDoorW.PrintLast Go.Proofs.YtihabmcaplnbcaaGreatDoorW.PrintMore
attribute [local go_sem] max2_int min2_int max_two min_two max_three min_three max_four min_four
set_option linter.unusedVariables false
set_option linter.unusedSimpArgs false
attribute [local go_sem high] eqA63
def bulletinlaw35_OrderReads.l0 : Nat → List (S63) → List (S65) → Int → Int → Option (Bool)
 | 0, _, _, _, _ => none
 | k + 1, x3, x4, x21, x22 => if x22 < x21 then (if 0 ≤ x22 then (if x22 < (x3.length : Int) then (if x22 < (x4.length : Int) then ((bulletinlaw35_To.f ((rd_T65 x4 x22).f0) ((rd_T65 x4 x22).f1) ((rd_T65 x4 x22).f2)).bind fun bt983 => (if (!(((rd_T63 x3 x22).f0) == bt983.1) || (!(((rd_T63 x3 x22).f1) == bt983.2.1) || (!((((rd_T63 x3 x22).f2).toList) == bt983.2.2.toList)))) = true then (some false) else (bulletinlaw35_OrderReads.l0 k x3 x4 x21 (wrap64 (x22 + 1))))) else (none)) else (none)) else (none)) else ((bulletinlaw35_works.f k).bind fun t986 => (some t986))
def bulletinlaw35_OrderReads.f (k : Nat) (l0_0 : List (S74)) (a0_1 : ByteArray) : Option (Bool) := (bulletinlaw16_Light.f k l0_0 a0_1).bind fun t969 => (if t969 = true then ((bulletinlaw16_To.f k l0_0 a0_1).bind fun bt971 => ((order_Read.f k bt971.1 bt971.2).bind fun t975 => ((bulletinref35_Read.f k l0_0 a0_1).bind fun t978 => (if (t975.length : Int) = (t978.length : Int) then (bulletinlaw35_OrderReads.l0 k t975 t978 (t975.length : Int) 0) else (some false))))) else ((bulletinlaw35_works.f k).bind fun t970 => (some t970)))
def bulletinlaw35_OrderReads.T10 : Bool × List (List Nat × List Nat) := (true, [([], []), ([], []), ([0, 1], [0, 1]), ([2], [2]), ([], []), ([], []), ([4, 5], [4, 5]), ([6], [6]), ([7], [7]), ([3, 8], [3, 8])])
def bulletinlaw35_OrderReads.B10 : List Nat := [0, 0, 3, 7, 0, 0, 48, 112, 240, 511]
theorem bulletinlaw35_OrderReads.tab10 : rtab .any (opsOf Tryz.f5 10) = bulletinlaw35_OrderReads.T10 := by kernel_rfl
theorem bulletinlaw35_OrderReads.bits10 : waitsOk bulletinlaw35_OrderReads.T10.2 bulletinlaw35_OrderReads.B10 = true := by kernel_rfl
set_option maxHeartbeats 8000000 in
set_option maxRecDepth 100000 in
theorem bulletinlaw35_OrderReads.calls (k : Nat) (A0_0 : Option Addr) (c0_0 : Nat) (l0_0 : List (S74)) (a0_1 : ByteArray) (r : Bool) (w : World) (hG : Glob w) (hr0_0 : Kd.C k74 w A0_0 l0_0.length l0_0) (hc0_0 : l0_0.length ≤ c0_0) (h : bulletinlaw35_OrderReads.f k l0_0 a0_1 = some r) :
  Calls Tryz.prog 5 #[.agg #[.slice A0_0 l0_0.length c0_0, .string a0_1]] w fun e w' => e = .returned (.bool r) ∧ Below w.heap.size w w' := by
 have hu24 := Tryz.underlying24; have hu63 := Tryz.underlying63; have hu65 := Tryz.underlying65; have HR0_0 := Aside0.mk hr0_0; have HC0_0 := Aside0.mk hc0_0; clear hr0_0 hc0_0; have HB := Aside0.mk (Below.refl w.heap.size w); have H : ((bulletinlaw16_Light.f k l0_0 a0_1).bind fun t969 => (if t969 = true then ((bulletinlaw16_To.f k l0_0 a0_1).bind fun bt971 => ((order_Read.f k bt971.1 bt971.2).bind fun t975 => ((bulletinref35_Read.f k l0_0 a0_1).bind fun t978 => (if (t975.length : Int) = (t978.length : Int) then (bulletinlaw35_OrderReads.l0 k t975 t978 (t975.length : Int) 0) else (some false))))) else ((bulletinlaw35_works.f k).bind fun t970 => (some t970)))) = some r := h; clear h; replace H := Option.bind_eq_some_iff.mp H; obtain ⟨t969, A20, H⟩ := H; have A2 := Aside0.mk A20; clear A20
 by_cases c3 : t969 = true
 ·subst c3; rw [if_pos rfl] at H; replace H := Option.bind_eq_some_iff.mp H; obtain ⟨⟨t971, t974⟩, A40, H⟩ := H; replace H : ((order_Read.f k t971 t974).bind fun t975 => ((bulletinref35_Read.f k l0_0 a0_1).bind fun t978 => (if (t975.length : Int) = (t978.length : Int) then (bulletinlaw35_OrderReads.l0 k t975 t978 (t975.length : Int) 0) else (some false)))) = some r := H; have A4 := Aside0.mk A40; clear A40; replace H := Option.bind_eq_some_iff.mp H; obtain ⟨t975, A50, H⟩ := H; have A5 := Aside0.mk A50; clear A50; replace H := Option.bind_eq_some_iff.mp H; obtain ⟨t978, A60, H⟩ := H; have A6 := Aside0.mk A60; clear A60
  by_cases c7 : (t975.length : Int) = (t978.length : Int)
  ·rw [if_pos c7] at H; have c7b0 := beq_iff_eq.mpr c7; have c7b1 := bne_eq_false_iff_eq.mpr c7; have c7b2 : (t975.length == t978.length) = true := by first | simpa using c7 | (simp at c7 ⊢; omega)
   clear c7; have H' := Aside0.mk H; clear H
   go_enter Tryz.func5, Tryz.ntmps5
   go_wp2_with (first | ((with_reducible refine gate_dst (N := 1) rfl ?_); refine box_event ?hg (N := 1) ?hd (cs := #[.slice A0_0 l0_0.length c0_0, .string a0_1]) (t := 24) ?hr ?_; (case hd => rfl); (case hg => rfl); (case hr => first | (go_simp; done) | (go_simp; rfl)); intro gb968 hg w8 hbox hb; have n0_ := Aside0.mk (below_step bw hb); have n1_ := Aside0.mk (hbox); have n2_ := Aside0.mk ((by rw [hg]; exact (below_size bw) : w.heap.size ≤ gb968)); have n3_ := Aside0.mk ((by rw [hg]; exact (below_size bw) : w.heap.size ≤ gb968)); clear HB; have HB := n0_; have BK968 := n1_; have GW968 := n2_; have GE968 := n3_; clear n0_ n1_ n2_ n3_; clear hb hbox hg; have hcz9_0 : w8.cell? ⟨gb968, 0, none⟩ = some (.slice A0_0 l0_0.length c0_0) := (blk_cell BK968.out 0).trans rfl; have hcz9_1 : w8.cell? ⟨gb968, 1, none⟩ = some (.string a0_1) := (blk_cell BK968.out 1).trans rfl; have hfz9_0 := blk_frozen BK968.out 0; have hfz9_1 := blk_frozen BK968.out 1) | ((with_reducible refine gate_callee (f := 7) rfl ?_); refine goesL_ (some 7) rfl rfl Tryz.func7 (by kernel_rfl) rfl #[.agg #[.slice A0_0 l0_0.length c0_0, .string a0_1]] rfl am ?_; (with_reducible refine (bulletinlaw16_Light.calls k _ _ l0_0 a0_1 true _ ?side1 ?side2 A2.out).mono ?_); (case side1 => repeat (first | exact (Kd.C_below HR0_0.out HB.out) | (with_reducible refine Kd.C_alloc ?_ _) | (with_reducible refine Kd.C_drewN ?_ _) | (with_reducible refine Kd.C_drew ?_))); (case side2 => exact HC0_0.out); rintro e w10 ⟨rfl, hb⟩; refine ⟨_, rfl, ?_⟩; have n0_ := Aside0.mk (blk_below (g := gb968) (o := .cells #[.slice A0_0 l0_0.length c0_0, .string a0_1] 24 (0, 0)) bk hb); have n1_ := Aside0.mk (below_step bwS hb); clear BK968; clear HB; have BK968 := n0_; have HB := n1_; clear n0_ n1_; (try clear hb); (try clear hb2); (try clear hk); (try clear hi); have hcz11_0 : w10.cell? ⟨gb968, 0, none⟩ = some (.slice A0_0 l0_0.length c0_0) := (blk_cell BK968.out 0).trans rfl; have hcz11_1 : w10.cell? ⟨gb968, 1, none⟩ = some (.string a0_1) := (blk_cell BK968.out 1).trans rfl; have hfz11_0 := blk_frozen BK968.out 0; have hfz11_1 := blk_frozen BK968.out 1) | ((with_reducible refine gate_callee (f := 9) rfl ?_); refine goesL_ (some 11) rfl rfl Tryz.func9 (by kernel_rfl) rfl #[.agg #[.slice A0_0 l0_0.length c0_0, .string a0_1]] rfl am ?_; (with_reducible refine (bulletinlaw16_To.calls k _ _ l0_0 a0_1 t971 t974 _ ?side1 ?side2 A4.out).mono ?_); (case side1 => repeat (first | exact (Kd.C_below HR0_0.out HB.out) | (with_reducible refine Kd.C_alloc ?_ _) | (with_reducible refine Kd.C_drewN ?_ _) | (with_reducible refine Kd.C_drew ?_))); (case side2 => exact HC0_0.out); rintro e w12 ⟨v972, rfl, ho0, hb⟩; refine ⟨_, rfl, ?_⟩; have n0_ := Aside0.mk (Kd.R_lower ho0 (below_size bwS)); have n1_ := Aside0.mk (blk_below (g := gb968) (o := .cells #[.slice A0_0 l0_0.length c0_0, .string a0_1] 24 (0, 0)) bk hb); have n2_ := Aside0.mk (below_step bwS hb); clear BK968; clear HB; have HO973 := n0_; have BK968 := n1_; have HB := n2_; clear n0_ n1_ n2_; (try clear hb); (try clear hb2); (try clear hk); (try clear hi); (try clear ho0); obtain ⟨Ao13, co13, eo13⟩ := Kd.R_slice HO973.out; subst eo13) | ((with_reducible refine gate_callee (f := 28) rfl ?_); refine goesL_ (some 12) rfl rfl Tryz.func28 (by kernel_rfl) rfl #[.agg #[.slice Ao13 t971.length co13, .string t974]] rfl am ?_; (with_reducible refine (order_Read.calls (hG := by first | exact hG | exact Glob.below hG (by first | exact HB.out | (repeat (first | (with_reducible first | exact HB.out | apply below_alloc | apply pw_below_drewN | apply below_drew1 | refine below_set ?_ GE968.out) | exact HB.out))) | exact Glob.drawn hG (d0)) k _ _ t971 t974 t975 _ ?side1 ?side2 A5.out).mono ?_); (case side1 => repeat (first | exact (Kd.R_reads' HO973.out).2.2 | (with_reducible refine Kd.C_alloc ?_ _) | (with_reducible refine Kd.C_drewN ?_ _) | (with_reducible refine Kd.C_drew ?_))); (case side2 => exact (Kd.R_reads' HO973.out).2.1); rintro e w14 ⟨v976, rfl, ho0, hb⟩; refine ⟨_, rfl, ?_⟩; have n0_ := Aside0.mk (Kd.R_below (ra HO973.out) hb); have n1_ := Aside0.mk (Kd.R_lower ho0 (below_size bwS)); have n2_ := Aside0.mk (blk_below (g := gb968) (o := .cells #[.slice A0_0 l0_0.length c0_0, .string a0_1] 24 (0, 0)) bk hb); have n3_ := Aside0.mk (below_step bwS hb); clear HO973; clear BK968; clear HB; have HO973 := n0_; have HO977 := n1_; have BK968 := n2_; have HB := n3_; clear n0_ n1_ n2_ n3_; (try clear hb); (try clear hb2); (try clear hk); (try clear hi); (try clear ho0); have hcz15_0 : w14.cell? ⟨gb968, 0, none⟩ = some (.slice A0_0 l0_0.length c0_0) := (blk_cell BK968.out 0).trans rfl; have hcz15_1 : w14.cell? ⟨gb968, 1, none⟩ = some (.string a0_1) := (blk_cell BK968.out 1).trans rfl; have hfz15_0 := blk_frozen BK968.out 0; have hfz15_1 := blk_frozen BK968.out 1) | ((with_reducible refine gate_callee (f := 29) rfl ?_); refine goesL_ (some 14) rfl rfl Tryz.func29 (by kernel_rfl) rfl #[.agg #[.slice A0_0 l0_0.length c0_0, .string a0_1]] rfl am ?_; (with_reducible refine (bulletinref35_Read.calls k _ _ l0_0 a0_1 t978 _ ?side1 ?side2 A6.out).mono ?_); (case side1 => repeat (first | exact (Kd.C_below HR0_0.out HB.out) | (with_reducible refine Kd.C_alloc ?_ _) | (with_reducible refine Kd.C_drewN ?_ _) | (with_reducible refine Kd.C_drew ?_))); (case side2 => exact HC0_0.out); rintro e w16 ⟨v979, rfl, ho0, hb⟩; refine ⟨_, rfl, ?_⟩; have n0_ := Aside0.mk (Kd.R_below (ra HO973.out) hb); have n1_ := Aside0.mk (Kd.R_below (ra HO977.out) hb); have n2_ := Aside0.mk (Kd.R_lower ho0 (below_size bwS)); have n3_ := Aside0.mk (blk_below (g := gb968) (o := .cells #[.slice A0_0 l0_0.length c0_0, .string a0_1] 24 (0, 0)) bk hb); have n4_ := Aside0.mk (below_step bwS hb); clear HO973; clear HO977; clear BK968; clear HB; have HO973 := n0_; have HO977 := n1_; have HO980 := n2_; have BK968 := n3_; have HB := n4_; clear n0_ n1_ n2_ n3_ n4_; (try clear hb); (try clear hb2); (try clear hk); (try clear hi); (try clear ho0); obtain ⟨Ao17, co17, eo17⟩ := Kd.R_slice HO977.out; subst eo17; obtain ⟨Ao18, co18, eo18⟩ := Kd.R_slice HO980.out; subst eo18))
   go_loopg [22] k (fun kq v22 w' => ∃ (x22_1 : Int), v22 = .int .i64 x22_1 ∧ Aside0 (bulletinlaw35_OrderReads.l0 kq t975 t978 (t975.length : Int) x22_1 = some r) ∧ Aside0 (kq ≤ k) ∧ Aside0 (Kd.R k63 63 w' w.heap.size (fun _ => True) (.slice Ao17 t975.length co17) t975) ∧ Aside0 (Kd.R k65 65 w' w.heap.size (fun _ => True) (.slice Ao18 t978.length co18) t978) ∧ Aside0 (w'.heap[gb968]? = some (.cells #[(.slice A0_0 l0_0.length c0_0), .string a0_1] 24 (0, 0))) ∧ Aside0 (Below w.heap.size w w'))
   case atStart => exact ⟨(0), cl, H', ⟨Nat.le_refl _⟩, ⟨ra HO977.out⟩, ⟨ra HO980.out⟩, ⟨bk⟩, ⟨bwS⟩⟩
   case round =>
    clear H'
    try clear c2
    try clear p2
    try clear c3
    try clear c5
    try clear c7
    try clear c7b0
    try clear c7b1
    try clear c7b2
    try clear c9
    try clear hcz11_0
    try clear hcz11_1
    try clear hcz15_0
    try clear hcz15_1
    try clear hcz9_0
    try clear hcz9_1
    try clear hfz11_0
    try clear hfz11_1
    try clear hfz15_0
    try clear hfz15_1
    try clear hfz9_0
    try clear hfz9_1
    obtain ⟨x22_1, rfl, HA, HK1, HO_3, HO_4, BK968, HB⟩ := hrel; cases gk with
    | zero => exact absurd HA.out (by simp [bulletinlaw35_OrderReads.l0])
    | succ k1 =>
     have H := HA.out; clear HA; simp only [bulletinlaw35_OrderReads.l0] at H
     by_cases c19 : x22_1 < (t975.length : Int)
     ·rw [if_pos c19] at H; have c19b0 := decide_eq_true c19; clear c19
      by_cases c20 : 0 ≤ x22_1
      ·rw [if_pos c20] at H; have c20b0 := decide_eq_true c20; clear c20
       by_cases c21 : x22_1 < (t975.length : Int)
       ·rw [if_pos c21] at H; have c21b0 := decide_eq_true c21; clear c21
        by_cases c22 : x22_1 < (t978.length : Int)
        ·rw [if_pos c22] at H; have c22b0 := decide_eq_true c22; clear c22; replace H := Option.bind_eq_some_iff.mp H; obtain ⟨⟨t983, t984, t985⟩, A230, H⟩ := H; replace H : (if (!(((rd_T63 t975 x22_1).f0) == t983) || (!(((rd_T63 t975 x22_1).f1) == t984) || (!((((rd_T63 t975 x22_1).f2).toList) == t985.toList)))) = true then (some false) else (bulletinlaw35_OrderReads.l0 k1 t975 t978 (t975.length : Int) (wrap64 (x22_1 + 1)))) = some r := H; have A23 := Aside0.mk A230; clear A230
         by_cases c24 : (!(((rd_T63 t975 x22_1).f0) == t983) || (!(((rd_T63 t975 x22_1).f1) == t984) || (!((((rd_T63 t975 x22_1).f2).toList) == t985.toList)))) = true
         ·rw [if_pos c24] at H; have c24b0 : (!(((rd_T63 t975 x22_1).f0) == t983) || (!(((rd_T63 t975 x22_1).f1) == t984) || (!((((rd_T63 t975 x22_1).f2).toList) == t985.toList)))) = true := c24; clear c24; obtain rfl := Option.some.inj H
          try go_wp2
          have n0_ := Aside0.mk (Kd.R_drew HO_3.out); have n1_ := Aside0.mk (Kd.R_drew HO_4.out); have n2_ := Aside0.mk (blk_drew BK968.out); have n3_ := Aside0.mk (below_drew1 HB.out); clear HO_3 HO_4 BK968 HB; have HO_3 := n0_; have HO_4 := n1_; have BK968 := n2_; have HB := n3_; clear n0_ n1_ n2_ n3_; have p981 : 0 ≤ (x22_1 : Int) := od; have q981 : x22_1 < (t975.length : Int) := od; obtain ⟨ad981, e981, hx981_0, hx981_1, hx981_2⟩ := at_T63 (Kd.R_reads' HO_3.out).2.2 x22_1 p981 q981; cases e981; replace p981 := eq_true p981; replace q981 := eq_true q981; have p982 : 0 ≤ (x22_1 : Int) := od; have q982 : x22_1 < (t978.length : Int) := od; obtain ⟨ad982, e982, hx982_0, hx982_1, hx982_2⟩ := at_T65 (Kd.R_reads' HO_4.out).2.2 x22_1 p982 q982; cases e982; replace p982 := eq_true p982; replace q982 := eq_true q982; refine start_ (n := 10) (S := fun w' => w'.cell? (ad981.add ((x22_1).toNat * 3)) = some (.int .i64 ((rd_T63 t975 x22_1).f0)) ∧ w'.cell? ⟨(ad981.add ((x22_1).toNat * 3)).block, (ad981.add ((x22_1).toNat * 3)).off + 1, none⟩ = some (.int .i64 ((rd_T63 t975 x22_1).f1)) ∧ w'.cell? ⟨(ad981.add ((x22_1).toNat * 3)).block, (ad981.add ((x22_1).toNat * 3)).off + 2, none⟩ = some (.string ((rd_T63 t975 x22_1).f2)) ∧ w'.cell? (ad982.add ((x22_1).toNat * 3)) = some (.int .i64 ((rd_T65 t978 x22_1).f0)) ∧ w'.cell? ⟨(ad982.add ((x22_1).toNat * 3)).block, (ad982.add ((x22_1).toNat * 3)).off + 1, none⟩ = some (.int .i64 ((rd_T65 t978 x22_1).f1)) ∧ w'.cell? ⟨(ad982.add ((x22_1).toNat * 3)).block, (ad982.add ((x22_1).toNat * 3)).off + 2, none⟩ = some (.string ((rd_T65 t978 x22_1).f2))) (ds := []) #[false, false, false, false, false, false, false, false, false, false] (by kernel_rfl) rfl rfl ⟨hx981_0, hx981_1, hx981_2, hx982_0, hx982_1, hx982_2⟩ (fun hHeld => ?_); refine with_tabW bulletinlaw35_OrderReads.tab10 bulletinlaw35_OrderReads.bits10 (fun HT_ HW_ => ?_)
          generalize wr.drew = w25 at HO_3 HO_4 BK968 HB hx981_0 hx981_1 hx981_2 hx982_0 hx982_1 hx982_2 hHeld ⊢
          refine pure_ (i := 0) (N := some 25) (v := ?_) (a' := ?_) (bitsL 10 1) rfl rfl (any_of HT_.out (by kernel_rfl)) (fun _ _ _ h => h) (Or.inl ⟨by rfl, ?_⟩) ?_ ?_; rotate_left
          ·intro w'; go_simp; with_reducible rfl
          rotate_left
          ·simp only [Act.put, List.setIfInBounds_toArray, List.set_cons_zero, List.set_cons_succ, i64_w, i32_w]; rfl
          refine pure_ (i := 1) (N := some 26) (v := ?_) (a' := ?_) (bitsL 10 3) rfl rfl (any_of HT_.out (by kernel_rfl)) (fun _ _ _ h => h) (Or.inl ⟨by rfl, ?_⟩) ?_ ?_; rotate_left
          ·intro w'; go_simp; with_reducible rfl
          rotate_left
          ·simp only [Act.put, List.setIfInBounds_toArray, List.set_cons_zero, List.set_cons_succ, i64_w, i32_w]; rfl
          refine pure_ (i := 2) (N := some 27) (v := ?_) (a' := ?_) (bitsL 10 7) rfl rfl (any_of HT_.out (by kernel_rfl)) (fun _ _ _ h => h) (Or.inl ⟨by rfl, ?_⟩) ?_ ?_; rotate_left
          ·intro w'; go_simp; with_reducible rfl
          rotate_left
          ·simp only [Act.put, List.setIfInBounds_toArray, List.set_cons_zero, List.set_cons_succ, i64_w, i32_w]; rfl
          refine pure_ (i := 4) (N := some 29) (v := ?_) (a' := ?_) (bitsL 10 23) rfl rfl (any_of HT_.out (by kernel_rfl)) (fun _ _ _ h => h) (Or.inl ⟨by rfl, ?_⟩) ?_ ?_; rotate_left
          ·intro w'; go_simp; with_reducible rfl
          rotate_left
          ·simp only [Act.put, List.setIfInBounds_toArray, List.set_cons_zero, List.set_cons_succ, i64_w, i32_w]; rfl
          refine pure_ (i := 5) (N := some 30) (v := ?_) (a' := ?_) (bitsL 10 55) rfl rfl (any_of HT_.out (by kernel_rfl)) (fun _ _ _ h => h) (Or.inl ⟨by rfl, ?_⟩) ?_ ?_; rotate_left
          ·intro w'; go_simp; with_reducible rfl
          rotate_left
          ·simp only [Act.put, List.setIfInBounds_toArray, List.set_cons_zero, List.set_cons_succ, i64_w, i32_w]; rfl
          refine pure_ (i := 6) (N := some 31) (v := ?_) (a' := ?_) (bitsL 10 119) rfl rfl (any_of HT_.out (by kernel_rfl)) (fun _ _ _ h => h) (Or.inl ⟨by rfl, ?_⟩) ?_ ?_; rotate_left
          ·intro w'; go_simp; with_reducible rfl
          rotate_left
          ·simp only [Act.put, List.setIfInBounds_toArray, List.set_cons_zero, List.set_cons_succ, i64_w, i32_w]; rfl
          refine take_ (i := 3) (N := some 28) (v := ?_) (a' := ?_) (bitsL 10 127) rfl rfl (take_ofW HT_.out HW_.out (by kernel_rfl)) (fun _ _ _ h => h) (Or.inl ⟨by rfl, ?_⟩) hHeld ?_ ?_; rotate_left
          ·rintro w' ⟨s0, s1, s2, s3, s4, s5⟩; go_simp; with_reducible rfl
          rotate_left
          ·simp only [Act.put, List.setIfInBounds_toArray, List.set_cons_zero, List.set_cons_succ, i64_w, i32_w]; rfl
          refine take_ (i := 7) (N := some 32) (v := ?_) (a' := ?_) (bitsL 10 255) rfl rfl (take_ofW HT_.out HW_.out (by kernel_rfl)) (fun _ _ _ h => h) (Or.inl ⟨by rfl, ?_⟩) hHeld ?_ ?_; rotate_left
          ·rintro w' ⟨s0, s1, s2, s3, s4, s5⟩; go_simp; with_reducible rfl
          rotate_left
          ·simp only [Act.put, List.setIfInBounds_toArray, List.set_cons_zero, List.set_cons_succ, i64_w, i32_w]; rfl
          refine one_ (i := 8) (N := some 33) (bitsL 10 511) rfl rfl (one_of HT_.out (by kernel_rfl)) (by decide) (fun K hK => ?_); refine goes_ Tryz.func30 (by kernel_rfl) rfl #[.agg #[.int .i64 ((rd_T65 t978 x22_1).f0), .int .i64 ((rd_T65 t978 x22_1).f1), .string ((rd_T65 t978 x22_1).f2)]] (by rfl) rfl rfl am ?_; with_reducible refine (bulletinlaw35_To.calls ((rd_T65 t978 x22_1).f0) ((rd_T65 t978 x22_1).f1) ((rd_T65 t978 x22_1).f2) t983 t984 t985 _ A23.out).mono ?_; rintro e w26 ⟨rfl, hb⟩; have HS0_ := (hb.cell (World.block_lt_of_cell? _ _ (hHeld.1))).trans (hHeld.1); have HS1_ := (hb.cell (World.block_lt_of_cell? _ _ (hHeld.2.1))).trans (hHeld.2.1); have HS2_ := (hb.cell (World.block_lt_of_cell? _ _ (hHeld.2.2.1))).trans (hHeld.2.2.1); have HS3_ := (hb.cell (World.block_lt_of_cell? _ _ (hHeld.2.2.2.1))).trans (hHeld.2.2.2.1); have HS4_ := (hb.cell (World.block_lt_of_cell? _ _ (hHeld.2.2.2.2.1))).trans (hHeld.2.2.2.2.1); have HS5_ := (hb.cell (World.block_lt_of_cell? _ _ (hHeld.2.2.2.2.2))).trans (hHeld.2.2.2.2.2); refine ⟨_, rfl, ?_⟩; have n0_ := Aside0.mk (Kd.R_below (ra HO_3.out) hb); have n1_ := Aside0.mk (Kd.R_below (ra HO_4.out) hb); have n2_ := Aside0.mk (blk_below (g := gb968) (o := .cells #[.slice A0_0 l0_0.length c0_0, .string a0_1] 24 (0, 0)) bk hb); have n3_ := Aside0.mk (below_step bwS hb); clear HO_3 HO_4 BK968 HB; have HO_3 := n0_; have HO_4 := n1_; have BK968 := n2_; have HB := n3_; clear n0_ n1_ n2_ n3_
          (try clear hb)
          (try clear hb2)
          (try clear hk)
          (try clear hi)
          refine hK.out _ _ ⟨HS0_, HS1_, HS2_, HS3_, HS4_, HS5_⟩ (fun hHeld => ?_); clear hK K; refine norm_ (a' := ?_) ?_ ?_; rotate_left
          ·show Act.put _ (some 33) _ = _
           simp only [Act.put, List.setIfInBounds_toArray, List.set_cons_zero, List.set_cons_succ, i64_w, i32_w]; rfl
          refine pure_ (i := 9) (N := some 34) (v := ?_) (a' := ?_) (bitsL 10 1023) rfl rfl (any_of HT_.out (by kernel_rfl)) (fun _ _ _ h => h) (Or.inl ⟨by rfl, ?_⟩) ?_ ?_; rotate_left
          ·intro w'; go_simp; with_reducible rfl
          rotate_left
          ·simp only [Act.put, List.setIfInBounds_toArray, List.set_cons_zero, List.set_cons_succ, i64_w, i32_w]; rfl
          refine done_ (done_of HT_.out (by kernel_rfl)) ?_
          try go_wp2
          go_ret
          exact ⟨ew, bwS⟩
         rw [if_neg c24] at H; have c24b0 : (!(((rd_T63 t975 x22_1).f0) == t983) || (!(((rd_T63 t975 x22_1).f1) == t984) || (!((((rd_T63 t975 x22_1).f2).toList) == t985.toList)))) = false := by simpa using c24
         clear c24; have H' := Aside0.mk H; clear H
         try go_wp2
         have n0_ := Aside0.mk (Kd.R_drew HO_3.out); have n1_ := Aside0.mk (Kd.R_drew HO_4.out); have n2_ := Aside0.mk (blk_drew BK968.out); have n3_ := Aside0.mk (below_drew1 HB.out); clear HO_3 HO_4 BK968 HB; have HO_3 := n0_; have HO_4 := n1_; have BK968 := n2_; have HB := n3_; clear n0_ n1_ n2_ n3_; have p981 : 0 ≤ (x22_1 : Int) := od; have q981 : x22_1 < (t975.length : Int) := od; obtain ⟨ad981, e981, hx981_0, hx981_1, hx981_2⟩ := at_T63 (Kd.R_reads' HO_3.out).2.2 x22_1 p981 q981; cases e981; replace p981 := eq_true p981; replace q981 := eq_true q981; have p982 : 0 ≤ (x22_1 : Int) := od; have q982 : x22_1 < (t978.length : Int) := od; obtain ⟨ad982, e982, hx982_0, hx982_1, hx982_2⟩ := at_T65 (Kd.R_reads' HO_4.out).2.2 x22_1 p982 q982; cases e982; replace p982 := eq_true p982; replace q982 := eq_true q982; refine start_ (n := 10) (S := fun w' => w'.cell? (ad981.add ((x22_1).toNat * 3)) = some (.int .i64 ((rd_T63 t975 x22_1).f0)) ∧ w'.cell? ⟨(ad981.add ((x22_1).toNat * 3)).block, (ad981.add ((x22_1).toNat * 3)).off + 1, none⟩ = some (.int .i64 ((rd_T63 t975 x22_1).f1)) ∧ w'.cell? ⟨(ad981.add ((x22_1).toNat * 3)).block, (ad981.add ((x22_1).toNat * 3)).off + 2, none⟩ = some (.string ((rd_T63 t975 x22_1).f2)) ∧ w'.cell? (ad982.add ((x22_1).toNat * 3)) = some (.int .i64 ((rd_T65 t978 x22_1).f0)) ∧ w'.cell? ⟨(ad982.add ((x22_1).toNat * 3)).block, (ad982.add ((x22_1).toNat * 3)).off + 1, none⟩ = some (.int .i64 ((rd_T65 t978 x22_1).f1)) ∧ w'.cell? ⟨(ad982.add ((x22_1).toNat * 3)).block, (ad982.add ((x22_1).toNat * 3)).off + 2, none⟩ = some (.string ((rd_T65 t978 x22_1).f2))) (ds := []) #[false, false, false, false, false, false, false, false, false, false] (by kernel_rfl) rfl rfl ⟨hx981_0, hx981_1, hx981_2, hx982_0, hx982_1, hx982_2⟩ (fun hHeld => ?_); refine with_tabW bulletinlaw35_OrderReads.tab10 bulletinlaw35_OrderReads.bits10 (fun HT_ HW_ => ?_)
         generalize wr.drew = w27 at HO_3 HO_4 BK968 HB hx981_0 hx981_1 hx981_2 hx982_0 hx982_1 hx982_2 hHeld ⊢
         refine pure_ (i := 0) (N := some 25) (v := ?_) (a' := ?_) (bitsL 10 1) rfl rfl (any_of HT_.out (by kernel_rfl)) (fun _ _ _ h => h) (Or.inl ⟨by rfl, ?_⟩) ?_ ?_; rotate_left
         ·intro w'; go_simp; with_reducible rfl
         rotate_left
         ·simp only [Act.put, List.setIfInBounds_toArray, List.set_cons_zero, List.set_cons_succ, i64_w, i32_w]; rfl
         refine pure_ (i := 1) (N := some 26) (v := ?_) (a' := ?_) (bitsL 10 3) rfl rfl (any_of HT_.out (by kernel_rfl)) (fun _ _ _ h => h) (Or.inl ⟨by rfl, ?_⟩) ?_ ?_; rotate_left
         ·intro w'; go_simp; with_reducible rfl
         rotate_left
         ·simp only [Act.put, List.setIfInBounds_toArray, List.set_cons_zero, List.set_cons_succ, i64_w, i32_w]; rfl
         refine pure_ (i := 2) (N := some 27) (v := ?_) (a' := ?_) (bitsL 10 7) rfl rfl (any_of HT_.out (by kernel_rfl)) (fun _ _ _ h => h) (Or.inl ⟨by rfl, ?_⟩) ?_ ?_; rotate_left
         ·intro w'; go_simp; with_reducible rfl
         rotate_left
         ·simp only [Act.put, List.setIfInBounds_toArray, List.set_cons_zero, List.set_cons_succ, i64_w, i32_w]; rfl
         refine pure_ (i := 4) (N := some 29) (v := ?_) (a' := ?_) (bitsL 10 23) rfl rfl (any_of HT_.out (by kernel_rfl)) (fun _ _ _ h => h) (Or.inl ⟨by rfl, ?_⟩) ?_ ?_; rotate_left
         ·intro w'; go_simp; with_reducible rfl
         rotate_left
         ·simp only [Act.put, List.setIfInBounds_toArray, List.set_cons_zero, List.set_cons_succ, i64_w, i32_w]; rfl
         refine pure_ (i := 5) (N := some 30) (v := ?_) (a' := ?_) (bitsL 10 55) rfl rfl (any_of HT_.out (by kernel_rfl)) (fun _ _ _ h => h) (Or.inl ⟨by rfl, ?_⟩) ?_ ?_; rotate_left
         ·intro w'; go_simp; with_reducible rfl
         rotate_left
         ·simp only [Act.put, List.setIfInBounds_toArray, List.set_cons_zero, List.set_cons_succ, i64_w, i32_w]; rfl
         refine pure_ (i := 6) (N := some 31) (v := ?_) (a' := ?_) (bitsL 10 119) rfl rfl (any_of HT_.out (by kernel_rfl)) (fun _ _ _ h => h) (Or.inl ⟨by rfl, ?_⟩) ?_ ?_; rotate_left
         ·intro w'; go_simp; with_reducible rfl
         rotate_left
         ·simp only [Act.put, List.setIfInBounds_toArray, List.set_cons_zero, List.set_cons_succ, i64_w, i32_w]; rfl
         refine take_ (i := 3) (N := some 28) (v := ?_) (a' := ?_) (bitsL 10 127) rfl rfl (take_ofW HT_.out HW_.out (by kernel_rfl)) (fun _ _ _ h => h) (Or.inl ⟨by rfl, ?_⟩) hHeld ?_ ?_; rotate_left
         ·rintro w' ⟨s0, s1, s2, s3, s4, s5⟩; go_simp; with_reducible rfl
         rotate_left
         ·simp only [Act.put, List.setIfInBounds_toArray, List.set_cons_zero, List.set_cons_succ, i64_w, i32_w]; rfl
         refine take_ (i := 7) (N := some 32) (v := ?_) (a' := ?_) (bitsL 10 255) rfl rfl (take_ofW HT_.out HW_.out (by kernel_rfl)) (fun _ _ _ h => h) (Or.inl ⟨by rfl, ?_⟩) hHeld ?_ ?_; rotate_left
         ·rintro w' ⟨s0, s1, s2, s3, s4, s5⟩; go_simp; with_reducible rfl
         rotate_left
         ·simp only [Act.put, List.setIfInBounds_toArray, List.set_cons_zero, List.set_cons_succ, i64_w, i32_w]; rfl
         refine one_ (i := 8) (N := some 33) (bitsL 10 511) rfl rfl (one_of HT_.out (by kernel_rfl)) (by decide) (fun K hK => ?_); refine goes_ Tryz.func30 (by kernel_rfl) rfl #[.agg #[.int .i64 ((rd_T65 t978 x22_1).f0), .int .i64 ((rd_T65 t978 x22_1).f1), .string ((rd_T65 t978 x22_1).f2)]] (by rfl) rfl rfl am ?_; with_reducible refine (bulletinlaw35_To.calls ((rd_T65 t978 x22_1).f0) ((rd_T65 t978 x22_1).f1) ((rd_T65 t978 x22_1).f2) t983 t984 t985 _ A23.out).mono ?_; rintro e w28 ⟨rfl, hb⟩; have HS0_ := (hb.cell (World.block_lt_of_cell? _ _ (hHeld.1))).trans (hHeld.1); have HS1_ := (hb.cell (World.block_lt_of_cell? _ _ (hHeld.2.1))).trans (hHeld.2.1); have HS2_ := (hb.cell (World.block_lt_of_cell? _ _ (hHeld.2.2.1))).trans (hHeld.2.2.1); have HS3_ := (hb.cell (World.block_lt_of_cell? _ _ (hHeld.2.2.2.1))).trans (hHeld.2.2.2.1); have HS4_ := (hb.cell (World.block_lt_of_cell? _ _ (hHeld.2.2.2.2.1))).trans (hHeld.2.2.2.2.1); have HS5_ := (hb.cell (World.block_lt_of_cell? _ _ (hHeld.2.2.2.2.2))).trans (hHeld.2.2.2.2.2); refine ⟨_, rfl, ?_⟩; have n0_ := Aside0.mk (Kd.R_below (ra HO_3.out) hb); have n1_ := Aside0.mk (Kd.R_below (ra HO_4.out) hb); have n2_ := Aside0.mk (blk_below (g := gb968) (o := .cells #[.slice A0_0 l0_0.length c0_0, .string a0_1] 24 (0, 0)) bk hb); have n3_ := Aside0.mk (below_step bwS hb); clear HO_3 HO_4 BK968 HB; have HO_3 := n0_; have HO_4 := n1_; have BK968 := n2_; have HB := n3_; clear n0_ n1_ n2_ n3_
         (try clear hb)
         (try clear hb2)
         (try clear hk)
         (try clear hi)
         refine hK.out _ _ ⟨HS0_, HS1_, HS2_, HS3_, HS4_, HS5_⟩ (fun hHeld => ?_); clear hK K; refine norm_ (a' := ?_) ?_ ?_; rotate_left
         ·show Act.put _ (some 33) _ = _
          simp only [Act.put, List.setIfInBounds_toArray, List.set_cons_zero, List.set_cons_succ, i64_w, i32_w]; rfl
         refine pure_ (i := 9) (N := some 34) (v := ?_) (a' := ?_) (bitsL 10 1023) rfl rfl (any_of HT_.out (by kernel_rfl)) (fun _ _ _ h => h) (Or.inl ⟨by rfl, ?_⟩) ?_ ?_; rotate_left
         ·intro w'; go_simp; with_reducible rfl
         rotate_left
         ·simp only [Act.put, List.setIfInBounds_toArray, List.set_cons_zero, List.set_cons_succ, i64_w, i32_w]; rfl
         refine done_ (done_of HT_.out (by kernel_rfl)) ?_
         try go_wp2
         go_roundg k1
         case measure => have := HK1.out; omega
         case rel => exact ⟨(wrap64 (x22_1 + 1)), cl, H', ⟨by have := HK1.out; omega⟩, ⟨ra HO_3.out⟩, ⟨ra HO_4.out⟩, ⟨bk⟩, ⟨bwS⟩⟩
        rw [if_neg c22] at H; exact absurd H (by simp)
       rw [if_neg c21] at H; exact absurd H (by simp)
      rw [if_neg c20] at H; exact absurd H (by simp)
     rw [if_neg c19] at H; have c19b0 := decide_eq_false c19; clear c19; replace H := Option.bind_eq_some_iff.mp H; obtain ⟨t986, A290, H⟩ := H; have A29 := Aside0.mk A290; clear A290; obtain rfl := Option.some.inj H
     go_wp2_with (first | ((with_reducible refine gate_callee (f := 27) rfl ?_); refine goesL_ (some 36) rfl rfl Tryz.func27 (by kernel_rfl) rfl #[] rfl am ?_; (with_reducible refine (bulletinlaw35_works.calls k1  t986 _ A29.out).mono ?_); rintro e w30 ⟨rfl, hb⟩; refine ⟨_, rfl, ?_⟩; have n0_ := Aside0.mk (Kd.R_below (ra HO_3.out) hb); have n1_ := Aside0.mk (Kd.R_below (ra HO_4.out) hb); have n2_ := Aside0.mk (blk_below (g := gb968) (o := .cells #[.slice A0_0 l0_0.length c0_0, .string a0_1] 24 (0, 0)) bk hb); have n3_ := Aside0.mk (below_step bwS hb); clear HO_3; clear HO_4; clear BK968; clear HB; have HO_3 := n0_; have HO_4 := n1_; have BK968 := n2_; have HB := n3_; clear n0_ n1_ n2_ n3_; (try clear hb); (try clear hb2); (try clear hk); (try clear hi)))
     go_ret
     exact ⟨ew, bwS⟩
  rw [if_neg c7] at H; have c7b0 := beq_eq_false_iff_ne.mpr c7; have c7b1 := bne_iff_ne.mpr c7; have c7b2 : (t975.length == t978.length) = false := by first | simpa using c7 | (simp at c7 ⊢; omega)
  obtain rfl := Option.some.inj H
  go_enter Tryz.func5, Tryz.ntmps5
  go_wp2_with (first | ((with_reducible refine gate_dst (N := 1) rfl ?_); refine box_event ?hg (N := 1) ?hd (cs := #[.slice A0_0 l0_0.length c0_0, .string a0_1]) (t := 24) ?hr ?_; (case hd => rfl); (case hg => rfl); (case hr => first | (go_simp; done) | (go_simp; rfl)); intro gb968 hg w31 hbox hb; have n0_ := Aside0.mk (below_step bw hb); have n1_ := Aside0.mk (hbox); have n2_ := Aside0.mk ((by rw [hg]; exact (below_size bw) : w.heap.size ≤ gb968)); have n3_ := Aside0.mk ((by rw [hg]; exact (below_size bw) : w.heap.size ≤ gb968)); clear HB; have HB := n0_; have BK968 := n1_; have GW968 := n2_; have GE968 := n3_; clear n0_ n1_ n2_ n3_; clear hb hbox hg; have hcz32_0 : w31.cell? ⟨gb968, 0, none⟩ = some (.slice A0_0 l0_0.length c0_0) := (blk_cell BK968.out 0).trans rfl; have hcz32_1 : w31.cell? ⟨gb968, 1, none⟩ = some (.string a0_1) := (blk_cell BK968.out 1).trans rfl; have hfz32_0 := blk_frozen BK968.out 0; have hfz32_1 := blk_frozen BK968.out 1) | ((with_reducible refine gate_callee (f := 7) rfl ?_); refine goesL_ (some 7) rfl rfl Tryz.func7 (by kernel_rfl) rfl #[.agg #[.slice A0_0 l0_0.length c0_0, .string a0_1]] rfl am ?_; (with_reducible refine (bulletinlaw16_Light.calls k _ _ l0_0 a0_1 true _ ?side1 ?side2 A2.out).mono ?_); (case side1 => repeat (first | exact (Kd.C_below HR0_0.out HB.out) | (with_reducible refine Kd.C_alloc ?_ _) | (with_reducible refine Kd.C_drewN ?_ _) | (with_reducible refine Kd.C_drew ?_))); (case side2 => exact HC0_0.out); rintro e w33 ⟨rfl, hb⟩; refine ⟨_, rfl, ?_⟩; have n0_ := Aside0.mk (blk_below (g := gb968) (o := .cells #[.slice A0_0 l0_0.length c0_0, .string a0_1] 24 (0, 0)) bk hb); have n1_ := Aside0.mk (below_step bwS hb); clear BK968; clear HB; have BK968 := n0_; have HB := n1_; clear n0_ n1_; (try clear hb); (try clear hb2); (try clear hk); (try clear hi); have hcz34_0 : w33.cell? ⟨gb968, 0, none⟩ = some (.slice A0_0 l0_0.length c0_0) := (blk_cell BK968.out 0).trans rfl; have hcz34_1 : w33.cell? ⟨gb968, 1, none⟩ = some (.string a0_1) := (blk_cell BK968.out 1).trans rfl; have hfz34_0 := blk_frozen BK968.out 0; have hfz34_1 := blk_frozen BK968.out 1) | ((with_reducible refine gate_callee (f := 9) rfl ?_); refine goesL_ (some 11) rfl rfl Tryz.func9 (by kernel_rfl) rfl #[.agg #[.slice A0_0 l0_0.length c0_0, .string a0_1]] rfl am ?_; (with_reducible refine (bulletinlaw16_To.calls k _ _ l0_0 a0_1 t971 t974 _ ?side1 ?side2 A4.out).mono ?_); (case side1 => repeat (first | exact (Kd.C_below HR0_0.out HB.out) | (with_reducible refine Kd.C_alloc ?_ _) | (with_reducible refine Kd.C_drewN ?_ _) | (with_reducible refine Kd.C_drew ?_))); (case side2 => exact HC0_0.out); rintro e w35 ⟨v972, rfl, ho0, hb⟩; refine ⟨_, rfl, ?_⟩; have n0_ := Aside0.mk (Kd.R_lower ho0 (below_size bwS)); have n1_ := Aside0.mk (blk_below (g := gb968) (o := .cells #[.slice A0_0 l0_0.length c0_0, .string a0_1] 24 (0, 0)) bk hb); have n2_ := Aside0.mk (below_step bwS hb); clear BK968; clear HB; have HO973 := n0_; have BK968 := n1_; have HB := n2_; clear n0_ n1_ n2_; (try clear hb); (try clear hb2); (try clear hk); (try clear hi); (try clear ho0); obtain ⟨Ao36, co36, eo36⟩ := Kd.R_slice HO973.out; subst eo36) | ((with_reducible refine gate_callee (f := 28) rfl ?_); refine goesL_ (some 12) rfl rfl Tryz.func28 (by kernel_rfl) rfl #[.agg #[.slice Ao36 t971.length co36, .string t974]] rfl am ?_; (with_reducible refine (order_Read.calls (hG := by first | exact hG | exact Glob.below hG (by first | exact HB.out | (repeat (first | (with_reducible first | exact HB.out | apply below_alloc | apply pw_below_drewN | apply below_drew1 | refine below_set ?_ GE968.out) | exact HB.out))) | exact Glob.drawn hG (d0)) k _ _ t971 t974 t975 _ ?side1 ?side2 A5.out).mono ?_); (case side1 => repeat (first | exact (Kd.R_reads' HO973.out).2.2 | (with_reducible refine Kd.C_alloc ?_ _) | (with_reducible refine Kd.C_drewN ?_ _) | (with_reducible refine Kd.C_drew ?_))); (case side2 => exact (Kd.R_reads' HO973.out).2.1); rintro e w37 ⟨v976, rfl, ho0, hb⟩; refine ⟨_, rfl, ?_⟩; have n0_ := Aside0.mk (Kd.R_below (ra HO973.out) hb); have n1_ := Aside0.mk (Kd.R_lower ho0 (below_size bwS)); have n2_ := Aside0.mk (blk_below (g := gb968) (o := .cells #[.slice A0_0 l0_0.length c0_0, .string a0_1] 24 (0, 0)) bk hb); have n3_ := Aside0.mk (below_step bwS hb); clear HO973; clear BK968; clear HB; have HO973 := n0_; have HO977 := n1_; have BK968 := n2_; have HB := n3_; clear n0_ n1_ n2_ n3_; (try clear hb); (try clear hb2); (try clear hk); (try clear hi); (try clear ho0); have hcz38_0 : w37.cell? ⟨gb968, 0, none⟩ = some (.slice A0_0 l0_0.length c0_0) := (blk_cell BK968.out 0).trans rfl; have hcz38_1 : w37.cell? ⟨gb968, 1, none⟩ = some (.string a0_1) := (blk_cell BK968.out 1).trans rfl; have hfz38_0 := blk_frozen BK968.out 0; have hfz38_1 := blk_frozen BK968.out 1) | ((with_reducible refine gate_callee (f := 29) rfl ?_); refine goesL_ (some 14) rfl rfl Tryz.func29 (by kernel_rfl) rfl #[.agg #[.slice A0_0 l0_0.length c0_0, .string a0_1]] rfl am ?_; (with_reducible refine (bulletinref35_Read.calls k _ _ l0_0 a0_1 t978 _ ?side1 ?side2 A6.out).mono ?_); (case side1 => repeat (first | exact (Kd.C_below HR0_0.out HB.out) | (with_reducible refine Kd.C_alloc ?_ _) | (with_reducible refine Kd.C_drewN ?_ _) | (with_reducible refine Kd.C_drew ?_))); (case side2 => exact HC0_0.out); rintro e w39 ⟨v979, rfl, ho0, hb⟩; refine ⟨_, rfl, ?_⟩; have n0_ := Aside0.mk (Kd.R_below (ra HO973.out) hb); have n1_ := Aside0.mk (Kd.R_below (ra HO977.out) hb); have n2_ := Aside0.mk (Kd.R_lower ho0 (below_size bwS)); have n3_ := Aside0.mk (blk_below (g := gb968) (o := .cells #[.slice A0_0 l0_0.length c0_0, .string a0_1] 24 (0, 0)) bk hb); have n4_ := Aside0.mk (below_step bwS hb); clear HO973; clear HO977; clear BK968; clear HB; have HO973 := n0_; have HO977 := n1_; have HO980 := n2_; have BK968 := n3_; have HB := n4_; clear n0_ n1_ n2_ n3_ n4_; (try clear hb); (try clear hb2); (try clear hk); (try clear hi); (try clear ho0); obtain ⟨Ao40, co40, eo40⟩ := Kd.R_slice HO977.out; subst eo40; obtain ⟨Ao41, co41, eo41⟩ := Kd.R_slice HO980.out; subst eo41))
  go_ret
  exact ⟨ew, bwS⟩
 replace c3 := Bool.eq_false_iff.mpr c3; subst c3; rw [if_neg nft] at H; replace H := Option.bind_eq_some_iff.mp H; obtain ⟨t970, A420, H⟩ := H; have A42 := Aside0.mk A420; clear A420; obtain rfl := Option.some.inj H
 go_enter Tryz.func5, Tryz.ntmps5
 go_wp2_with (first | ((with_reducible refine gate_dst (N := 1) rfl ?_); refine box_event ?hg (N := 1) ?hd (cs := #[.slice A0_0 l0_0.length c0_0, .string a0_1]) (t := 24) ?hr ?_; (case hd => rfl); (case hg => rfl); (case hr => first | (go_simp; done) | (go_simp; rfl)); intro gb968 hg w43 hbox hb; have n0_ := Aside0.mk (below_step bw hb); have n1_ := Aside0.mk (hbox); have n2_ := Aside0.mk ((by rw [hg]; exact (below_size bw) : w.heap.size ≤ gb968)); have n3_ := Aside0.mk ((by rw [hg]; exact (below_size bw) : w.heap.size ≤ gb968)); clear HB; have HB := n0_; have BK968 := n1_; have GW968 := n2_; have GE968 := n3_; clear n0_ n1_ n2_ n3_; clear hb hbox hg; have hcz44_0 : w43.cell? ⟨gb968, 0, none⟩ = some (.slice A0_0 l0_0.length c0_0) := (blk_cell BK968.out 0).trans rfl; have hcz44_1 : w43.cell? ⟨gb968, 1, none⟩ = some (.string a0_1) := (blk_cell BK968.out 1).trans rfl; have hfz44_0 := blk_frozen BK968.out 0; have hfz44_1 := blk_frozen BK968.out 1) | ((with_reducible refine gate_callee (f := 7) rfl ?_); refine goesL_ (some 7) rfl rfl Tryz.func7 (by kernel_rfl) rfl #[.agg #[.slice A0_0 l0_0.length c0_0, .string a0_1]] rfl am ?_; (with_reducible refine (bulletinlaw16_Light.calls k _ _ l0_0 a0_1 false _ ?side1 ?side2 A2.out).mono ?_); (case side1 => repeat (first | exact (Kd.C_below HR0_0.out HB.out) | (with_reducible refine Kd.C_alloc ?_ _) | (with_reducible refine Kd.C_drewN ?_ _) | (with_reducible refine Kd.C_drew ?_))); (case side2 => exact HC0_0.out); rintro e w45 ⟨rfl, hb⟩; refine ⟨_, rfl, ?_⟩; have n0_ := Aside0.mk (blk_below (g := gb968) (o := .cells #[.slice A0_0 l0_0.length c0_0, .string a0_1] 24 (0, 0)) bk hb); have n1_ := Aside0.mk (below_step bwS hb); clear BK968; clear HB; have BK968 := n0_; have HB := n1_; clear n0_ n1_; (try clear hb); (try clear hb2); (try clear hk); (try clear hi)) | ((with_reducible refine gate_callee (f := 27) rfl ?_); refine goesL_ (some 9) rfl rfl Tryz.func27 (by kernel_rfl) rfl #[] rfl am ?_; (with_reducible refine (bulletinlaw35_works.calls k  t970 _ A42.out).mono ?_); rintro e w46 ⟨rfl, hb⟩; refine ⟨_, rfl, ?_⟩; have n0_ := Aside0.mk (blk_below (g := gb968) (o := .cells #[.slice A0_0 l0_0.length c0_0, .string a0_1] 24 (0, 0)) bk hb); have n1_ := Aside0.mk (below_step bwS hb); clear BK968; clear HB; have BK968 := n0_; have HB := n1_; clear n0_ n1_; (try clear hb); (try clear hb2); (try clear hk); (try clear hi)))
 go_ret
 exact ⟨ew, bwS⟩

end Go.Proofs.YtihabmcaplnbcaaGreatDoor.Fn
