/- A part of the proof of this sentence: A post that bears the list's id is refused -/
import Derived.Test.YtcndmhpeolbepaaGreatDoorCRightsLoop2
import Derived.Test.YtcndmhpeolbepaaGreatDoorRows
import Derived.HandedShaped
import Derived.LaidLaws
import Derived.LaidHandle
import Derived.Deep.DeepLaidRun
import Derived.Stop.Joined
import Derived.PinnedBridge
import Derived.Lib.LaidU8
import Derived.ProofKit
import Derived.RangeFuncSeq
import Derived.Lib.Split
import Derived.Lib.RuneCountTail
import Derived.Lib.SlTrimSet
import Derived.Lib.IndexMore
import Derived.Lib.ConvBytes
import Derived.Laws.Cover4
import Derived.Deep.RegionWith
import Derived.Laws.BytesArg
import Derived.Lib.SliceRun
import Derived.Shelf.RegionOpenPlain
import Derived.RangeFuncNested
import Derived.RangeFuncBound
import Derived.RangeFuncCalls
import Derived.RangeFuncLeaves
import Derived.Shelf.Abstract
import Derived.Shelf.RegionOpen
import Derived.WalkKit
import Derived.OwnWalkIn
import Derived.TacticsInMore
import Derived.LoopNIn
import Derived.LoopIn
set_option linter.unusedVariables false
set_option linter.unusedSimpArgs false
set_option maxHeartbeats 8000000
open Go.RowKit Go.Proofs.YtcndmhpeolbepaaGreatDoorW.PrintWords Go.Proofs.YtcndmhpeolbepaaGreatDoorW.PrintLast Go.Proofs.YtcndmhpeolbepaaGreatDoorW.PrintMore
namespace Go.Proofs.YtcndmhpeolbepaaGreatDoor.Fn
attribute [local go_sem] max2_int min2_int max_two min_two max_three min_three max_four min_four
def msg_Message_Seen.l0 : Nat → ByteArray → List ByteArray → Int → Int → Option (Bool)
 | 0, _, _, _, _ => none
 | k + 1, x5, x14, x15, x16 => if x16 < x15 then (if 0 ≤ x16 then (if x16 < (x14.length : Int) then ((glyph_Fold.f (rdOf ByteArray.empty x14 x16)).bind fun t559 => ((strings_HasSuffix.f t559 x5).bind fun t560 => (if t560 = true then (some true) else (msg_Message_Seen.l0 k x5 x14 x15 (wrap64 (x16 + 1)))))) else (none)) else (none)) else (some false)
def msg_Message_Seen.f (k : Nat) (l0_0 : List (S54)) (a0_1 : ByteArray) (a1 : ByteArray) : Option (Bool) := (glyph_Fold.f a1).bind fun t554 => (if 1 + t554.size ≤ 9223372036854775807 then (if ((⟨#[60]⟩ : ByteArray) ++ t554).size + 1 ≤ 9223372036854775807 then ((head_All.f k l0_0 (⟨#[76, 105, 115, 116, 45, 73, 100]⟩ : ByteArray)).bind fun t555 => (msg_Message_Seen.l0 k (((⟨#[60]⟩ : ByteArray) ++ t554) ++ (⟨#[62]⟩ : ByteArray)) t555 (t555.length : Int) 0)) else (none)) else (none))
set_option maxRecDepth 100000 in
theorem msg_Message_Seen.calls (k : Nat) (A0_0 : Option Addr) (c0_0 : Nat) (l0_0 : List (S54)) (a0_1 : ByteArray) (a1 : ByteArray) (r : Bool) (w : World) (hr0_0 : Kd.C k54 w A0_0 l0_0.length l0_0) (hc0_0 : l0_0.length ≤ c0_0) (h : msg_Message_Seen.f k l0_0 a0_1 a1 = some r) :
  Calls Tryz.prog 88 #[.agg #[.slice A0_0 l0_0.length c0_0, .string a0_1], .string a1] w fun e w' => e = .returned (.bool r) ∧ Below w.heap.size w w' := by
 have hu28 := Tryz.underlying28; have HR0_0 := Aside0.mk hr0_0; have HC0_0 := Aside0.mk hc0_0; clear hr0_0 hc0_0; have HB := Aside0.mk (Below.refl w.heap.size w); have H : ((glyph_Fold.f a1).bind fun t554 => (if 1 + t554.size ≤ 9223372036854775807 then (if ((⟨#[60]⟩ : ByteArray) ++ t554).size + 1 ≤ 9223372036854775807 then ((head_All.f k l0_0 (⟨#[76, 105, 115, 116, 45, 73, 100]⟩ : ByteArray)).bind fun t555 => (msg_Message_Seen.l0 k (((⟨#[60]⟩ : ByteArray) ++ t554) ++ (⟨#[62]⟩ : ByteArray)) t555 (t555.length : Int) 0)) else (none)) else (none))) = some r := h; clear h; replace H := Option.bind_eq_some_iff.mp H; obtain ⟨t554, A30, H⟩ := H; have A3 := Aside0.mk A30; clear A30
 by_cases c4 : 1 + t554.size ≤ 9223372036854775807
 ·rw [if_pos c4] at H; have c4b0 := eq_true c4; have c4b1 := decide_eq_true c4
  try have c4b2 : (9223372036854775807 < 1 + t554.size) = False := eq_false (Nat.not_lt.2 c4)
  by_cases c5 : ((⟨#[60]⟩ : ByteArray) ++ t554).size + 1 ≤ 9223372036854775807
  ·rw [if_pos c5] at H; have c5b0 := eq_true c5; have c5b1 := decide_eq_true c5
   try have c5b2 : (9223372036854775807 < ((⟨#[60]⟩ : ByteArray) ++ t554).size + 1) = False := eq_false (Nat.not_lt.2 c5)
   try (have c5b3 := c5; simp only [ByteArray.size_append, size_lit, ByteArray.size_extract, List.size_toArray, List.length_cons, List.length_nil, Nat.zero_add, Nat.reduceAdd] at c5b3; have c5b4 := eq_false (Nat.not_lt.2 c5b3))
   replace H := Option.bind_eq_some_iff.mp H; obtain ⟨t555, A60, H⟩ := H; have A6 := Aside0.mk A60; clear A60; have H' := Aside0.mk H; clear H
   go_enter Tryz.func88, Tryz.ntmps88
   go_wp2_with (first | ((with_reducible refine gate_dst (N := 2) rfl ?_); refine box_event ?hg (N := 2) ?hd (cs := #[.slice A0_0 l0_0.length c0_0, .string a0_1]) (t := 28) ?hr ?_; (case hd => rfl); (case hg => rfl); (case hr => first | (go_simp; done) | (go_simp; rfl)); intro gb553 hg w7 hbox hb; have n0_ := Aside0.mk (below_step bw hb); have n1_ := Aside0.mk (hbox); have n2_ := Aside0.mk ((by rw [hg]; exact (below_size bw) : w.heap.size ≤ gb553)); have n3_ := Aside0.mk ((by rw [hg]; exact (below_size bw) : w.heap.size ≤ gb553)); clear HB; have HB := n0_; have BK553 := n1_; have GW553 := n2_; have GE553 := n3_; clear n0_ n1_ n2_ n3_; clear hb hbox hg) | ((with_reducible refine gate_callee (f := 18) rfl ?_); refine goesL_ (some 9) rfl rfl Tryz.func18 (by kernel_rfl) rfl #[.string a1] rfl am ?_; (with_reducible refine (glyph_Fold.calls a1 t554 _ A3.out).mono ?_); rintro e w8 ⟨rfl, hb⟩; refine ⟨_, rfl, ?_⟩; have n0_ := Aside0.mk (blk_below (g := gb553) (o := .cells #[.slice A0_0 l0_0.length c0_0, .string a0_1] 28 (0, 0)) bk hb); have n1_ := Aside0.mk (below_step bwS hb); clear BK553; clear HB; have BK553 := n0_; have HB := n1_; clear n0_ n1_; (try clear hb); (try clear hb2); (try clear hk); (try clear hi); obtain ⟨hcz9_0, hcz9_1⟩ := ce2 BK553; obtain ⟨hfz9_0, hfz9_1⟩ := fz2 BK553) | ((with_reducible refine gate_callee (f := 17) rfl ?_); refine goesL_ (some 14) rfl rfl Tryz.func17 (by kernel_rfl) rfl #[.slice A0_0 l0_0.length c0_0, .string (⟨#[76, 105, 115, 116, 45, 73, 100]⟩ : ByteArray)] rfl am ?_; (with_reducible refine (head_All.calls k _ _ l0_0 (⟨#[76, 105, 115, 116, 45, 73, 100]⟩ : ByteArray) t555 _ ?side1 ?side2 A6.out).mono ?_); (case side1 => repeat (first | exact (Kd.C_below HR0_0.out HB.out) | (with_reducible refine Kd.C_alloc ?_ _) | (with_reducible refine Kd.C_drewN ?_ _) | (with_reducible refine Kd.C_drew ?_))); (case side2 => exact HC0_0.out); rintro e w10 ⟨v556, rfl, ho0, hb⟩; refine ⟨_, rfl, ?_⟩; have n0_ := Aside0.mk (Kd.R_lower ho0 (below_size bwS)); have n1_ := Aside0.mk (blk_below (g := gb553) (o := .cells #[.slice A0_0 l0_0.length c0_0, .string a0_1] 28 (0, 0)) bk hb); have n2_ := Aside0.mk (below_step bwS hb); clear BK553; clear HB; have HO557 := n0_; have BK553 := n1_; have HB := n2_; clear n0_ n1_ n2_; (try clear hb); (try clear hb2); (try clear hk); (try clear hi); (try clear ho0); obtain ⟨Ao11, co11, eo11⟩ := Kd.R_slice HO557.out; subst eo11))
   go_loopg [16] k (fun kq v16 w' => ∃ (x16_1 : Int), v16 = .int .i64 x16_1 ∧ Aside0 (msg_Message_Seen.l0 kq (((⟨#[60]⟩ : ByteArray) ++ t554) ++ (⟨#[62]⟩ : ByteArray)) t555 (t555.length : Int) x16_1 = some r) ∧ Aside0 (kq ≤ k) ∧ Aside0 (Kd.R Kd.string 9 w' w.heap.size (fun _ => True) (.slice Ao11 t555.length co11) t555) ∧ Aside0 (w'.heap[gb553]? = some (.cells #[(.slice A0_0 l0_0.length c0_0), .string a0_1] 28 (0, 0))) ∧ Aside0 (Below w.heap.size w w'))
   case atStart => exact ⟨(0), cl, H', ⟨Nat.le_refl _⟩, ⟨ra HO557.out⟩, ⟨bk⟩, ⟨bwS⟩⟩
   case round =>
    clear H' c4 c4b0 c4b1 c4b2 c5 c5b0 c5b1 c5b2 hcz9_0 hcz9_1 hfz9_0 hfz9_1; obtain ⟨x16_1, rfl, HA, HK1, HO_14, BK553, HB⟩ := hrel; cases gk with
    | zero => exact absurd HA.out (by simp [msg_Message_Seen.l0])
    | succ k1 =>
     have H := HA.out; clear HA; simp only [msg_Message_Seen.l0] at H
     by_cases c12 : x16_1 < (t555.length : Int)
     ·rw [if_pos c12] at H; have c12b0 := decide_eq_true c12; clear c12
      by_cases c13 : 0 ≤ x16_1
      ·rw [if_pos c13] at H; have c13b0 := decide_eq_true c13; clear c13
       by_cases c14 : x16_1 < (t555.length : Int)
       ·rw [if_pos c14] at H; have c14b0 := decide_eq_true c14; clear c14; replace H := Option.bind_eq_some_iff.mp H; obtain ⟨t559, A150, H⟩ := H; have A15 := Aside0.mk A150; clear A150; replace H := Option.bind_eq_some_iff.mp H; obtain ⟨t560, A160, H⟩ := H; have A16 := Aside0.mk A160; clear A160
        by_cases c17 : t560 = true
        ·subst c17; rw [if_pos rfl] at H; obtain rfl := Option.some.inj H; have p558 : 0 ≤ (x16_1 : Int) := od; have q558 : x16_1 < (t555.length : Int) := od; obtain ⟨ad558, e558, hx558_0⟩ := Kd.at_string (Kd.R_reads' HO_14.out).2.2 x16_1 p558 q558; cases e558; replace p558 := eq_true p558; replace q558 := eq_true q558
         go_wp2_with (first | ((with_reducible refine gate_callee (f := 18) rfl ?_); refine goesL_ (some 21) rfl rfl Tryz.func18 (by kernel_rfl) rfl #[.string (rdOf ByteArray.empty t555 x16_1)] rfl am ?_; (with_reducible refine (glyph_Fold.calls (rdOf ByteArray.empty t555 x16_1) t559 _ A15.out).mono ?_); rintro e w18 ⟨rfl, hb⟩; refine ⟨_, rfl, ?_⟩; have n0_ := Aside0.mk (Kd.R_below (ra HO_14.out) hb); have n1_ := Aside0.mk (blk_below (g := gb553) (o := .cells #[.slice A0_0 l0_0.length c0_0, .string a0_1] 28 (0, 0)) bk hb); have n2_ := Aside0.mk (below_step bwS hb); clear HO_14; clear BK553; clear HB; have HO_14 := n0_; have BK553 := n1_; have HB := n2_; clear n0_ n1_ n2_; (try clear hb); (try clear hb2); (try clear hk); (try clear hi)) | ((with_reducible refine gate_callee (f := 126) rfl ?_); refine goesL_ (some 23) rfl rfl Tryz.func126 (by kernel_rfl) rfl #[.string t559, .string (((⟨#[60]⟩ : ByteArray) ++ t554) ++ (⟨#[62]⟩ : ByteArray))] rfl am ?_; (with_reducible refine (strings_HasSuffix.calls t559 (((⟨#[60]⟩ : ByteArray) ++ t554) ++ (⟨#[62]⟩ : ByteArray)) true _ A16.out).mono ?_); rintro e w' ⟨rfl, ⟨nd, rfl⟩⟩; refine ⟨_, rfl, ?_⟩))
         go_ret
         exact ⟨ew, bwS⟩
        replace c17 := Bool.eq_false_iff.mpr c17; subst c17; rw [if_neg nft] at H; have H' := Aside0.mk H; clear H; have p558 : 0 ≤ (x16_1 : Int) := od; have q558 : x16_1 < (t555.length : Int) := od; obtain ⟨ad558, e558, hx558_0⟩ := Kd.at_string (Kd.R_reads' HO_14.out).2.2 x16_1 p558 q558; cases e558; replace p558 := eq_true p558; replace q558 := eq_true q558
        go_wp2_with (first | ((with_reducible refine gate_callee (f := 18) rfl ?_); refine goesL_ (some 21) rfl rfl Tryz.func18 (by kernel_rfl) rfl #[.string (rdOf ByteArray.empty t555 x16_1)] rfl am ?_; (with_reducible refine (glyph_Fold.calls (rdOf ByteArray.empty t555 x16_1) t559 _ A15.out).mono ?_); rintro e w19 ⟨rfl, hb⟩; refine ⟨_, rfl, ?_⟩; have n0_ := Aside0.mk (Kd.R_below (ra HO_14.out) hb); have n1_ := Aside0.mk (blk_below (g := gb553) (o := .cells #[.slice A0_0 l0_0.length c0_0, .string a0_1] 28 (0, 0)) bk hb); have n2_ := Aside0.mk (below_step bwS hb); clear HO_14; clear BK553; clear HB; have HO_14 := n0_; have BK553 := n1_; have HB := n2_; clear n0_ n1_ n2_; (try clear hb); (try clear hb2); (try clear hk); (try clear hi)) | ((with_reducible refine gate_callee (f := 126) rfl ?_); refine goesL_ (some 23) rfl rfl Tryz.func126 (by kernel_rfl) rfl #[.string t559, .string (((⟨#[60]⟩ : ByteArray) ++ t554) ++ (⟨#[62]⟩ : ByteArray))] rfl am ?_; (with_reducible refine (strings_HasSuffix.calls t559 (((⟨#[60]⟩ : ByteArray) ++ t554) ++ (⟨#[62]⟩ : ByteArray)) false _ A16.out).mono ?_); rintro e w' ⟨rfl, ⟨nd, rfl⟩⟩; refine ⟨_, rfl, ?_⟩))
        go_roundg k1
        case measure => have := HK1.out; omega
        case rel => exact ⟨(wrap64 (x16_1 + 1)), cl, H', ⟨by have := HK1.out; omega⟩, ⟨ra HO_14.out⟩, ⟨bk⟩, ⟨bwS⟩⟩
       rw [if_neg c14] at H; exact absurd H (by simp)
      rw [if_neg c13] at H; exact absurd H (by simp)
     rw [if_neg c12] at H; have c12b0 := decide_eq_false c12; clear c12; obtain rfl := Option.some.inj H
     go_wp2
     go_ret
     exact ⟨ew, bwS⟩
  rw [if_neg c5] at H; exact absurd H (by simp)
 rw [if_neg c4] at H; exact absurd H (by simp)
def msg_Message_Hops.f (k : Nat) (l0_0 : List (S54)) (a0_1 : ByteArray) : Option (Int) := (head_All.f k l0_0 (⟨#[82, 101, 99, 101, 105, 118, 101, 100]⟩ : ByteArray)).bind fun t562 => (some (t562.length : Int))
set_option maxRecDepth 100000 in
theorem msg_Message_Hops.calls (k : Nat) (A0_0 : Option Addr) (c0_0 : Nat) (l0_0 : List (S54)) (a0_1 : ByteArray) (r : Int) (w : World) (hr0_0 : Kd.C k54 w A0_0 l0_0.length l0_0) (hc0_0 : l0_0.length ≤ c0_0) (h : msg_Message_Hops.f k l0_0 a0_1 = some r) :
  Calls Tryz.prog 89 #[.agg #[.slice A0_0 l0_0.length c0_0, .string a0_1]] w fun e w' => e = .returned (.int .i64 r) ∧ Below w.heap.size w w' := by
 have hu28 := Tryz.underlying28; have HR0_0 := Aside0.mk hr0_0; have HC0_0 := Aside0.mk hc0_0; clear hr0_0 hc0_0; have HB := Aside0.mk (Below.refl w.heap.size w); have H : ((head_All.f k l0_0 (⟨#[82, 101, 99, 101, 105, 118, 101, 100]⟩ : ByteArray)).bind fun t562 => (some (t562.length : Int))) = some r := h; clear h; replace H := Option.bind_eq_some_iff.mp H; obtain ⟨t562, A20, H⟩ := H; have A2 := Aside0.mk A20; clear A20; obtain rfl := Option.some.inj H
 go_enter Tryz.func89, Tryz.ntmps89
 go_wp2_with (first | ((with_reducible refine gate_dst (N := 1) rfl ?_); refine box_event ?hg (N := 1) ?hd (cs := #[.slice A0_0 l0_0.length c0_0, .string a0_1]) (t := 28) ?hr ?_; (case hd => rfl); (case hg => rfl); (case hr => first | (go_simp; done) | (go_simp; rfl)); intro gb561 hg w3 hbox hb; have n0_ := Aside0.mk (below_step bw hb); have n1_ := Aside0.mk (hbox); have n2_ := Aside0.mk ((by rw [hg]; exact (below_size bw) : w.heap.size ≤ gb561)); have n3_ := Aside0.mk ((by rw [hg]; exact (below_size bw) : w.heap.size ≤ gb561)); clear HB; have HB := n0_; have BK561 := n1_; have GW561 := n2_; have GE561 := n3_; clear n0_ n1_ n2_ n3_; clear hb hbox hg; obtain ⟨hcz4_0, hcz4_1⟩ := ce2 BK561; obtain ⟨hfz4_0, hfz4_1⟩ := fz2 BK561) | ((with_reducible refine gate_callee (f := 17) rfl ?_); refine goesL_ (some 5) rfl rfl Tryz.func17 (by kernel_rfl) rfl #[.slice A0_0 l0_0.length c0_0, .string (⟨#[82, 101, 99, 101, 105, 118, 101, 100]⟩ : ByteArray)] rfl am ?_; (with_reducible refine (head_All.calls k _ _ l0_0 (⟨#[82, 101, 99, 101, 105, 118, 101, 100]⟩ : ByteArray) t562 _ ?side1 ?side2 A2.out).mono ?_); (case side1 => repeat (first | exact (Kd.C_below HR0_0.out HB.out) | (with_reducible refine Kd.C_alloc ?_ _) | (with_reducible refine Kd.C_drewN ?_ _) | (with_reducible refine Kd.C_drew ?_))); (case side2 => exact HC0_0.out); rintro e w5 ⟨v563, rfl, ho0, hb⟩; refine ⟨_, rfl, ?_⟩; have n0_ := Aside0.mk (Kd.R_lower ho0 (below_size bwS)); have n1_ := Aside0.mk (blk_below (g := gb561) (o := .cells #[.slice A0_0 l0_0.length c0_0, .string a0_1] 28 (0, 0)) bk hb); have n2_ := Aside0.mk (below_step bwS hb); clear BK561; clear HB; have HO564 := n0_; have BK561 := n1_; have HB := n2_; clear n0_ n1_ n2_; (try clear hb); (try clear hb2); (try clear hk); (try clear hi); (try clear ho0); obtain ⟨Ao6, co6, eo6⟩ := Kd.R_slice HO564.out; subst eo6))
 go_ret
 exact ⟨ew, bwS⟩
def msg_Message_Word.f (k : Nat) (l0_0 : List (S54)) (a0_1 : ByteArray) (a1 : ByteArray) : Option (ByteArray) := (msg_Message_Get.f k l0_0 a0_1 a1).bind fun t572 => ((strings_IndexAny.f t572 (⟨#[59, 32, 9]⟩ : ByteArray)).bind fun t573 => (if t573 ≥ 0 then (if 0 ≤ t573 then (if t573 ≤ (t572.size : Int) then ((glyph_Fold.f (t572.extract 0 (t573 : Int).toNat)).bind fun t574 => (some t574)) else (none)) else (none)) else ((glyph_Fold.f t572).bind fun t575 => (some t575))))
set_option maxRecDepth 100000 in
theorem msg_Message_Word.calls (k : Nat) (A0_0 : Option Addr) (c0_0 : Nat) (l0_0 : List (S54)) (a0_1 : ByteArray) (a1 : ByteArray) (r : ByteArray) (w : World) (hr0_0 : Kd.C k54 w A0_0 l0_0.length l0_0) (hc0_0 : l0_0.length ≤ c0_0) (h : msg_Message_Word.f k l0_0 a0_1 a1 = some r) :
  Calls Tryz.prog 127 #[.agg #[.slice A0_0 l0_0.length c0_0, .string a0_1], .string a1] w fun e w' => e = .returned (.string r) ∧ Below w.heap.size w w' := by
 have hu28 := Tryz.underlying28; have HR0_0 := Aside0.mk hr0_0; have HC0_0 := Aside0.mk hc0_0; clear hr0_0 hc0_0; have HB := Aside0.mk (Below.refl w.heap.size w); have H : ((msg_Message_Get.f k l0_0 a0_1 a1).bind fun t572 => ((strings_IndexAny.f t572 (⟨#[59, 32, 9]⟩ : ByteArray)).bind fun t573 => (if t573 ≥ 0 then (if 0 ≤ t573 then (if t573 ≤ (t572.size : Int) then ((glyph_Fold.f (t572.extract 0 (t573 : Int).toNat)).bind fun t574 => (some t574)) else (none)) else (none)) else ((glyph_Fold.f t572).bind fun t575 => (some t575))))) = some r := h; clear h; replace H := Option.bind_eq_some_iff.mp H; obtain ⟨t572, A30, H⟩ := H; have A3 := Aside0.mk A30; clear A30; replace H := Option.bind_eq_some_iff.mp H; obtain ⟨t573, A40, H⟩ := H; have A4 := Aside0.mk A40; clear A40
 by_cases c5 : t573 ≥ 0
 ·rw [if_pos c5] at H; have c5b0 : decide (0 ≤ t573) = true := decide_eq_true c5; clear c5
  by_cases c6 : 0 ≤ t573
  ·rw [if_pos c6] at H; have c6b0 := eq_true c6; have c6b1 := decide_eq_true c6; clear c6
   by_cases c7 : t573 ≤ (t572.size : Int)
   ·rw [if_pos c7] at H; have c7b0 := eq_true c7; have c7b1 := decide_eq_true c7; clear c7; replace H := Option.bind_eq_some_iff.mp H; obtain ⟨t574, A80, H⟩ := H; have A8 := Aside0.mk A80; clear A80; obtain rfl := Option.some.inj H
    go_enter Tryz.func127, Tryz.ntmps127
    go_wp2_with (first | ((with_reducible refine gate_dst (N := 2) rfl ?_); refine box_event ?hg (N := 2) ?hd (cs := #[.slice A0_0 l0_0.length c0_0, .string a0_1]) (t := 28) ?hr ?_; (case hd => rfl); (case hg => rfl); (case hr => first | (go_simp; done) | (go_simp; rfl)); intro gb571 hg w9 hbox hb; have n0_ := Aside0.mk (below_step bw hb); have n1_ := Aside0.mk (hbox); have n2_ := Aside0.mk ((by rw [hg]; exact (below_size bw) : w.heap.size ≤ gb571)); have n3_ := Aside0.mk ((by rw [hg]; exact (below_size bw) : w.heap.size ≤ gb571)); clear HB; have HB := n0_; have BK571 := n1_; have GW571 := n2_; have GE571 := n3_; clear n0_ n1_ n2_ n3_; clear hb hbox hg; obtain ⟨hcz10_0, hcz10_1⟩ := ce2 BK571; obtain ⟨hfz10_0, hfz10_1⟩ := fz2 BK571) | ((with_reducible refine gate_callee (f := 41) rfl ?_); refine goesL_ (some 9) rfl rfl Tryz.func41 (by kernel_rfl) rfl #[.agg #[.slice A0_0 l0_0.length c0_0, .string a0_1], .string a1] rfl am ?_; (with_reducible refine (msg_Message_Get.calls k _ _ l0_0 a0_1 a1 t572 _ ?side1 ?side2 A3.out).mono ?_); (case side1 => repeat (first | exact (Kd.C_below HR0_0.out HB.out) | (with_reducible refine Kd.C_alloc ?_ _) | (with_reducible refine Kd.C_drewN ?_ _) | (with_reducible refine Kd.C_drew ?_))); (case side2 => exact HC0_0.out); rintro e w11 ⟨rfl, hb⟩; refine ⟨_, rfl, ?_⟩; have n0_ := Aside0.mk (blk_below (g := gb571) (o := .cells #[.slice A0_0 l0_0.length c0_0, .string a0_1] 28 (0, 0)) bk hb); have n1_ := Aside0.mk (below_step bwS hb); clear BK571; clear HB; have BK571 := n0_; have HB := n1_; clear n0_ n1_; (try clear hb); (try clear hb2); (try clear hk); (try clear hi)) | ((with_reducible refine gate_callee (f := 153) rfl ?_); refine goesL_ (some 11) rfl rfl Tryz.func153 (by kernel_rfl) rfl #[.string t572, .string (⟨#[59, 32, 9]⟩ : ByteArray)] rfl am ?_; (with_reducible refine (strings_IndexAny.calls t572 (⟨#[59, 32, 9]⟩ : ByteArray) t573 _ A4.out).mono ?_); rintro e w12 ⟨rfl, hb⟩; refine ⟨_, rfl, ?_⟩; have n0_ := Aside0.mk (blk_below (g := gb571) (o := .cells #[.slice A0_0 l0_0.length c0_0, .string a0_1] 28 (0, 0)) bk hb); have n1_ := Aside0.mk (below_step bwS hb); clear BK571; clear HB; have BK571 := n0_; have HB := n1_; clear n0_ n1_; (try clear hb); (try clear hb2); (try clear hk); (try clear hi)) | ((with_reducible refine gate_callee (f := 18) rfl ?_); refine goesL_ (some 18) rfl rfl Tryz.func18 (by kernel_rfl) rfl #[.string (t572.extract 0 (t573 : Int).toNat)] rfl am ?_; (with_reducible refine (glyph_Fold.calls (t572.extract 0 (t573 : Int).toNat) t574 _ A8.out).mono ?_); rintro e w13 ⟨rfl, hb⟩; refine ⟨_, rfl, ?_⟩; have n0_ := Aside0.mk (blk_below (g := gb571) (o := .cells #[.slice A0_0 l0_0.length c0_0, .string a0_1] 28 (0, 0)) bk hb); have n1_ := Aside0.mk (below_step bwS hb); clear BK571; clear HB; have BK571 := n0_; have HB := n1_; clear n0_ n1_; (try clear hb); (try clear hb2); (try clear hk); (try clear hi)))
    go_ret
    exact ⟨ew, bwS⟩
   rw [if_neg c7] at H; exact absurd H (by simp)
  rw [if_neg c6] at H; exact absurd H (by simp)
 rw [if_neg c5] at H; have c5b0 : decide (0 ≤ t573) = false := decide_eq_false c5; clear c5; replace H := Option.bind_eq_some_iff.mp H; obtain ⟨t575, A140, H⟩ := H; have A14 := Aside0.mk A140; clear A140; obtain rfl := Option.some.inj H
 go_enter Tryz.func127, Tryz.ntmps127
 go_wp2_with (first | ((with_reducible refine gate_dst (N := 2) rfl ?_); refine box_event ?hg (N := 2) ?hd (cs := #[.slice A0_0 l0_0.length c0_0, .string a0_1]) (t := 28) ?hr ?_; (case hd => rfl); (case hg => rfl); (case hr => first | (go_simp; done) | (go_simp; rfl)); intro gb571 hg w15 hbox hb; have n0_ := Aside0.mk (below_step bw hb); have n1_ := Aside0.mk (hbox); have n2_ := Aside0.mk ((by rw [hg]; exact (below_size bw) : w.heap.size ≤ gb571)); have n3_ := Aside0.mk ((by rw [hg]; exact (below_size bw) : w.heap.size ≤ gb571)); clear HB; have HB := n0_; have BK571 := n1_; have GW571 := n2_; have GE571 := n3_; clear n0_ n1_ n2_ n3_; clear hb hbox hg; obtain ⟨hcz16_0, hcz16_1⟩ := ce2 BK571; obtain ⟨hfz16_0, hfz16_1⟩ := fz2 BK571) | ((with_reducible refine gate_callee (f := 41) rfl ?_); refine goesL_ (some 9) rfl rfl Tryz.func41 (by kernel_rfl) rfl #[.agg #[.slice A0_0 l0_0.length c0_0, .string a0_1], .string a1] rfl am ?_; (with_reducible refine (msg_Message_Get.calls k _ _ l0_0 a0_1 a1 t572 _ ?side1 ?side2 A3.out).mono ?_); (case side1 => repeat (first | exact (Kd.C_below HR0_0.out HB.out) | (with_reducible refine Kd.C_alloc ?_ _) | (with_reducible refine Kd.C_drewN ?_ _) | (with_reducible refine Kd.C_drew ?_))); (case side2 => exact HC0_0.out); rintro e w17 ⟨rfl, hb⟩; refine ⟨_, rfl, ?_⟩; have n0_ := Aside0.mk (blk_below (g := gb571) (o := .cells #[.slice A0_0 l0_0.length c0_0, .string a0_1] 28 (0, 0)) bk hb); have n1_ := Aside0.mk (below_step bwS hb); clear BK571; clear HB; have BK571 := n0_; have HB := n1_; clear n0_ n1_; (try clear hb); (try clear hb2); (try clear hk); (try clear hi)) | ((with_reducible refine gate_callee (f := 153) rfl ?_); refine goesL_ (some 11) rfl rfl Tryz.func153 (by kernel_rfl) rfl #[.string t572, .string (⟨#[59, 32, 9]⟩ : ByteArray)] rfl am ?_; (with_reducible refine (strings_IndexAny.calls t572 (⟨#[59, 32, 9]⟩ : ByteArray) t573 _ A4.out).mono ?_); rintro e w18 ⟨rfl, hb⟩; refine ⟨_, rfl, ?_⟩; have n0_ := Aside0.mk (blk_below (g := gb571) (o := .cells #[.slice A0_0 l0_0.length c0_0, .string a0_1] 28 (0, 0)) bk hb); have n1_ := Aside0.mk (below_step bwS hb); clear BK571; clear HB; have BK571 := n0_; have HB := n1_; clear n0_ n1_; (try clear hb); (try clear hb2); (try clear hk); (try clear hi)) | ((with_reducible refine gate_callee (f := 18) rfl ?_); refine goesL_ (some 18) rfl rfl Tryz.func18 (by kernel_rfl) rfl #[.string t572] rfl am ?_; (with_reducible refine (glyph_Fold.calls t572 t575 _ A14.out).mono ?_); rintro e w19 ⟨rfl, hb⟩; refine ⟨_, rfl, ?_⟩; have n0_ := Aside0.mk (blk_below (g := gb571) (o := .cells #[.slice A0_0 l0_0.length c0_0, .string a0_1] 28 (0, 0)) bk hb); have n1_ := Aside0.mk (below_step bwS hb); clear BK571; clear HB; have BK571 := n0_; have HB := n1_; clear n0_ n1_; (try clear hb); (try clear hb2); (try clear hk); (try clear hi)))
 go_ret
 exact ⟨ew, bwS⟩
def msg_Message_Auto.f (k : Nat) (l0_0 : List (S54)) (a0_1 : ByteArray) : Option (Bool) := (msg_Message_Word.f k l0_0 a0_1 (⟨#[80, 114, 101, 99, 101, 100, 101, 110, 99, 101]⟩ : ByteArray)).bind fun t577 => (if t577.toList = ([98, 117, 108, 107] : List UInt8) then (some true) else (if t577.toList = ([106, 117, 110, 107] : List UInt8) then (some true) else (if t577.toList = ([108, 105, 115, 116] : List UInt8) then (some true) else ((msg_Message_Word.f k l0_0 a0_1 (⟨#[65, 117, 116, 111, 45, 83, 117, 98, 109, 105, 116, 116, 101, 100]⟩ : ByteArray)).bind fun t578 => (if t578.toList = ([] : List UInt8) then (some false) else (some (t578.toList != ([110, 111] : List UInt8))))))))
set_option maxRecDepth 100000 in
theorem msg_Message_Auto.calls (k : Nat) (A0_0 : Option Addr) (c0_0 : Nat) (l0_0 : List (S54)) (a0_1 : ByteArray) (r : Bool) (w : World) (hr0_0 : Kd.C k54 w A0_0 l0_0.length l0_0) (hc0_0 : l0_0.length ≤ c0_0) (h : msg_Message_Auto.f k l0_0 a0_1 = some r) :
  Calls Tryz.prog 90 #[.agg #[.slice A0_0 l0_0.length c0_0, .string a0_1]] w fun e w' => e = .returned (.bool r) ∧ Below w.heap.size w w' := by
 have hu28 := Tryz.underlying28; have HR0_0 := Aside0.mk hr0_0; have HC0_0 := Aside0.mk hc0_0; clear hr0_0 hc0_0; have HB := Aside0.mk (Below.refl w.heap.size w); have H : ((msg_Message_Word.f k l0_0 a0_1 (⟨#[80, 114, 101, 99, 101, 100, 101, 110, 99, 101]⟩ : ByteArray)).bind fun t577 => (if t577.toList = ([98, 117, 108, 107] : List UInt8) then (some true) else (if t577.toList = ([106, 117, 110, 107] : List UInt8) then (some true) else (if t577.toList = ([108, 105, 115, 116] : List UInt8) then (some true) else ((msg_Message_Word.f k l0_0 a0_1 (⟨#[65, 117, 116, 111, 45, 83, 117, 98, 109, 105, 116, 116, 101, 100]⟩ : ByteArray)).bind fun t578 => (if t578.toList = ([] : List UInt8) then (some false) else (some (t578.toList != ([110, 111] : List UInt8))))))))) = some r := h; clear h; replace H := Option.bind_eq_some_iff.mp H; obtain ⟨t577, A20, H⟩ := H; have A2 := Aside0.mk A20; clear A20
 by_cases c3 : t577.toList = ([98, 117, 108, 107] : List UInt8)
 ·rw [if_pos c3] at H; have c3b0 := beq_iff_eq.mpr c3; have c3b1 := bne_eq_false_iff_eq.mpr c3; clear c3; obtain rfl := Option.some.inj H
  go_enter Tryz.func90, Tryz.ntmps90
  go_wp2_with (first | ((with_reducible refine gate_dst (N := 1) rfl ?_); refine box_event ?hg (N := 1) ?hd (cs := #[.slice A0_0 l0_0.length c0_0, .string a0_1]) (t := 28) ?hr ?_; (case hd => rfl); (case hg => rfl); (case hr => first | (go_simp; done) | (go_simp; rfl)); intro gb576 hg w4 hbox hb; have n0_ := Aside0.mk (below_step bw hb); have n1_ := Aside0.mk (hbox); have n2_ := Aside0.mk ((by rw [hg]; exact (below_size bw) : w.heap.size ≤ gb576)); have n3_ := Aside0.mk ((by rw [hg]; exact (below_size bw) : w.heap.size ≤ gb576)); clear HB; have HB := n0_; have BK576 := n1_; have GW576 := n2_; have GE576 := n3_; clear n0_ n1_ n2_ n3_; clear hb hbox hg; obtain ⟨hcz5_0, hcz5_1⟩ := ce2 BK576; obtain ⟨hfz5_0, hfz5_1⟩ := fz2 BK576) | ((with_reducible refine gate_callee (f := 127) rfl ?_); refine goesL_ (some 5) rfl rfl Tryz.func127 (by kernel_rfl) rfl #[.agg #[.slice A0_0 l0_0.length c0_0, .string a0_1], .string (⟨#[80, 114, 101, 99, 101, 100, 101, 110, 99, 101]⟩ : ByteArray)] rfl am ?_; (with_reducible refine (msg_Message_Word.calls k _ _ l0_0 a0_1 (⟨#[80, 114, 101, 99, 101, 100, 101, 110, 99, 101]⟩ : ByteArray) t577 _ ?side1 ?side2 A2.out).mono ?_); (case side1 => repeat (first | exact (Kd.C_below HR0_0.out HB.out) | (with_reducible refine Kd.C_alloc ?_ _) | (with_reducible refine Kd.C_drewN ?_ _) | (with_reducible refine Kd.C_drew ?_))); (case side2 => exact HC0_0.out); rintro e w6 ⟨rfl, hb⟩; refine ⟨_, rfl, ?_⟩; have n0_ := Aside0.mk (blk_below (g := gb576) (o := .cells #[.slice A0_0 l0_0.length c0_0, .string a0_1] 28 (0, 0)) bk hb); have n1_ := Aside0.mk (below_step bwS hb); clear BK576; clear HB; have BK576 := n0_; have HB := n1_; clear n0_ n1_; (try clear hb); (try clear hb2); (try clear hk); (try clear hi)))
  go_ret
  exact ⟨ew, bwS⟩
 rw [if_neg c3] at H; have c3b0 := beq_eq_false_iff_ne.mpr c3; have c3b1 := bne_iff_ne.mpr c3
 by_cases c7 : t577.toList = ([106, 117, 110, 107] : List UInt8)
 ·rw [if_pos c7] at H; have c7b0 := beq_iff_eq.mpr c7; have c7b1 := bne_eq_false_iff_eq.mpr c7; clear c7; obtain rfl := Option.some.inj H
  go_enter Tryz.func90, Tryz.ntmps90
  go_wp2_with (first | ((with_reducible refine gate_dst (N := 1) rfl ?_); refine box_event ?hg (N := 1) ?hd (cs := #[.slice A0_0 l0_0.length c0_0, .string a0_1]) (t := 28) ?hr ?_; (case hd => rfl); (case hg => rfl); (case hr => first | (go_simp; done) | (go_simp; rfl)); intro gb576 hg w8 hbox hb; have n0_ := Aside0.mk (below_step bw hb); have n1_ := Aside0.mk (hbox); have n2_ := Aside0.mk ((by rw [hg]; exact (below_size bw) : w.heap.size ≤ gb576)); have n3_ := Aside0.mk ((by rw [hg]; exact (below_size bw) : w.heap.size ≤ gb576)); clear HB; have HB := n0_; have BK576 := n1_; have GW576 := n2_; have GE576 := n3_; clear n0_ n1_ n2_ n3_; clear hb hbox hg; obtain ⟨hcz9_0, hcz9_1⟩ := ce2 BK576; obtain ⟨hfz9_0, hfz9_1⟩ := fz2 BK576) | ((with_reducible refine gate_callee (f := 127) rfl ?_); refine goesL_ (some 5) rfl rfl Tryz.func127 (by kernel_rfl) rfl #[.agg #[.slice A0_0 l0_0.length c0_0, .string a0_1], .string (⟨#[80, 114, 101, 99, 101, 100, 101, 110, 99, 101]⟩ : ByteArray)] rfl am ?_; (with_reducible refine (msg_Message_Word.calls k _ _ l0_0 a0_1 (⟨#[80, 114, 101, 99, 101, 100, 101, 110, 99, 101]⟩ : ByteArray) t577 _ ?side1 ?side2 A2.out).mono ?_); (case side1 => repeat (first | exact (Kd.C_below HR0_0.out HB.out) | (with_reducible refine Kd.C_alloc ?_ _) | (with_reducible refine Kd.C_drewN ?_ _) | (with_reducible refine Kd.C_drew ?_))); (case side2 => exact HC0_0.out); rintro e w10 ⟨rfl, hb⟩; refine ⟨_, rfl, ?_⟩; have n0_ := Aside0.mk (blk_below (g := gb576) (o := .cells #[.slice A0_0 l0_0.length c0_0, .string a0_1] 28 (0, 0)) bk hb); have n1_ := Aside0.mk (below_step bwS hb); clear BK576; clear HB; have BK576 := n0_; have HB := n1_; clear n0_ n1_; (try clear hb); (try clear hb2); (try clear hk); (try clear hi)))
  go_ret
  exact ⟨ew, bwS⟩
 rw [if_neg c7] at H; have c7b0 := beq_eq_false_iff_ne.mpr c7; have c7b1 := bne_iff_ne.mpr c7
 by_cases c11 : t577.toList = ([108, 105, 115, 116] : List UInt8)
 ·rw [if_pos c11] at H; have c11b0 := beq_iff_eq.mpr c11; have c11b1 := bne_eq_false_iff_eq.mpr c11; clear c11; obtain rfl := Option.some.inj H
  go_enter Tryz.func90, Tryz.ntmps90
  go_wp2_with (first | ((with_reducible refine gate_dst (N := 1) rfl ?_); refine box_event ?hg (N := 1) ?hd (cs := #[.slice A0_0 l0_0.length c0_0, .string a0_1]) (t := 28) ?hr ?_; (case hd => rfl); (case hg => rfl); (case hr => first | (go_simp; done) | (go_simp; rfl)); intro gb576 hg w12 hbox hb; have n0_ := Aside0.mk (below_step bw hb); have n1_ := Aside0.mk (hbox); have n2_ := Aside0.mk ((by rw [hg]; exact (below_size bw) : w.heap.size ≤ gb576)); have n3_ := Aside0.mk ((by rw [hg]; exact (below_size bw) : w.heap.size ≤ gb576)); clear HB; have HB := n0_; have BK576 := n1_; have GW576 := n2_; have GE576 := n3_; clear n0_ n1_ n2_ n3_; clear hb hbox hg; obtain ⟨hcz13_0, hcz13_1⟩ := ce2 BK576; obtain ⟨hfz13_0, hfz13_1⟩ := fz2 BK576) | ((with_reducible refine gate_callee (f := 127) rfl ?_); refine goesL_ (some 5) rfl rfl Tryz.func127 (by kernel_rfl) rfl #[.agg #[.slice A0_0 l0_0.length c0_0, .string a0_1], .string (⟨#[80, 114, 101, 99, 101, 100, 101, 110, 99, 101]⟩ : ByteArray)] rfl am ?_; (with_reducible refine (msg_Message_Word.calls k _ _ l0_0 a0_1 (⟨#[80, 114, 101, 99, 101, 100, 101, 110, 99, 101]⟩ : ByteArray) t577 _ ?side1 ?side2 A2.out).mono ?_); (case side1 => repeat (first | exact (Kd.C_below HR0_0.out HB.out) | (with_reducible refine Kd.C_alloc ?_ _) | (with_reducible refine Kd.C_drewN ?_ _) | (with_reducible refine Kd.C_drew ?_))); (case side2 => exact HC0_0.out); rintro e w14 ⟨rfl, hb⟩; refine ⟨_, rfl, ?_⟩; have n0_ := Aside0.mk (blk_below (g := gb576) (o := .cells #[.slice A0_0 l0_0.length c0_0, .string a0_1] 28 (0, 0)) bk hb); have n1_ := Aside0.mk (below_step bwS hb); clear BK576; clear HB; have BK576 := n0_; have HB := n1_; clear n0_ n1_; (try clear hb); (try clear hb2); (try clear hk); (try clear hi)))
  go_ret
  exact ⟨ew, bwS⟩
 rw [if_neg c11] at H; have c11b0 := beq_eq_false_iff_ne.mpr c11; have c11b1 := bne_iff_ne.mpr c11; replace H := Option.bind_eq_some_iff.mp H; obtain ⟨t578, A150, H⟩ := H; have A15 := Aside0.mk A150; clear A150
 by_cases c16 : t578.toList = ([] : List UInt8)
 ·rw [if_pos c16] at H; have c16b0 := beq_iff_eq.mpr c16; have c16b1 := bne_eq_false_iff_eq.mpr c16; clear c16; obtain rfl := Option.some.inj H
  go_enter Tryz.func90, Tryz.ntmps90
  go_wp2_with (first | ((with_reducible refine gate_dst (N := 1) rfl ?_); refine box_event ?hg (N := 1) ?hd (cs := #[.slice A0_0 l0_0.length c0_0, .string a0_1]) (t := 28) ?hr ?_; (case hd => rfl); (case hg => rfl); (case hr => first | (go_simp; done) | (go_simp; rfl)); intro gb576 hg w17 hbox hb; have n0_ := Aside0.mk (below_step bw hb); have n1_ := Aside0.mk (hbox); have n2_ := Aside0.mk ((by rw [hg]; exact (below_size bw) : w.heap.size ≤ gb576)); have n3_ := Aside0.mk ((by rw [hg]; exact (below_size bw) : w.heap.size ≤ gb576)); clear HB; have HB := n0_; have BK576 := n1_; have GW576 := n2_; have GE576 := n3_; clear n0_ n1_ n2_ n3_; clear hb hbox hg; obtain ⟨hcz18_0, hcz18_1⟩ := ce2 BK576; obtain ⟨hfz18_0, hfz18_1⟩ := fz2 BK576) | ((with_reducible refine gate_callee (f := 127) rfl ?_); refine goesL_ (some 5) rfl rfl Tryz.func127 (by kernel_rfl) rfl #[.agg #[.slice A0_0 l0_0.length c0_0, .string a0_1], .string (⟨#[80, 114, 101, 99, 101, 100, 101, 110, 99, 101]⟩ : ByteArray)] rfl am ?_; (with_reducible refine (msg_Message_Word.calls k _ _ l0_0 a0_1 (⟨#[80, 114, 101, 99, 101, 100, 101, 110, 99, 101]⟩ : ByteArray) t577 _ ?side1 ?side2 A2.out).mono ?_); (case side1 => repeat (first | exact (Kd.C_below HR0_0.out HB.out) | (with_reducible refine Kd.C_alloc ?_ _) | (with_reducible refine Kd.C_drewN ?_ _) | (with_reducible refine Kd.C_drew ?_))); (case side2 => exact HC0_0.out); rintro e w19 ⟨rfl, hb⟩; refine ⟨_, rfl, ?_⟩; have n0_ := Aside0.mk (blk_below (g := gb576) (o := .cells #[.slice A0_0 l0_0.length c0_0, .string a0_1] 28 (0, 0)) bk hb); have n1_ := Aside0.mk (below_step bwS hb); clear BK576; clear HB; have BK576 := n0_; have HB := n1_; clear n0_ n1_; (try clear hb); (try clear hb2); (try clear hk); (try clear hi); obtain ⟨hcz20_0, hcz20_1⟩ := ce2 BK576; obtain ⟨hfz20_0, hfz20_1⟩ := fz2 BK576) | ((with_reducible refine gate_callee (f := 127) rfl ?_); refine goesL_ (some 11) rfl rfl Tryz.func127 (by kernel_rfl) rfl #[.agg #[.slice A0_0 l0_0.length c0_0, .string a0_1], .string (⟨#[65, 117, 116, 111, 45, 83, 117, 98, 109, 105, 116, 116, 101, 100]⟩ : ByteArray)] rfl am ?_; (with_reducible refine (msg_Message_Word.calls k _ _ l0_0 a0_1 (⟨#[65, 117, 116, 111, 45, 83, 117, 98, 109, 105, 116, 116, 101, 100]⟩ : ByteArray) t578 _ ?side1 ?side2 A15.out).mono ?_); (case side1 => repeat (first | exact (Kd.C_below HR0_0.out HB.out) | (with_reducible refine Kd.C_alloc ?_ _) | (with_reducible refine Kd.C_drewN ?_ _) | (with_reducible refine Kd.C_drew ?_))); (case side2 => exact HC0_0.out); rintro e w21 ⟨rfl, hb⟩; refine ⟨_, rfl, ?_⟩; have n0_ := Aside0.mk (blk_below (g := gb576) (o := .cells #[.slice A0_0 l0_0.length c0_0, .string a0_1] 28 (0, 0)) bk hb); have n1_ := Aside0.mk (below_step bwS hb); clear BK576; clear HB; have BK576 := n0_; have HB := n1_; clear n0_ n1_; (try clear hb); (try clear hb2); (try clear hk); (try clear hi)))
  go_ret
  exact ⟨ew, bwS⟩
 rw [if_neg c16] at H; have c16b0 := beq_eq_false_iff_ne.mpr c16; have c16b1 := bne_iff_ne.mpr c16; obtain rfl := Option.some.inj H
 go_enter Tryz.func90, Tryz.ntmps90
 go_wp2_with (first | ((with_reducible refine gate_dst (N := 1) rfl ?_); refine box_event ?hg (N := 1) ?hd (cs := #[.slice A0_0 l0_0.length c0_0, .string a0_1]) (t := 28) ?hr ?_; (case hd => rfl); (case hg => rfl); (case hr => first | (go_simp; done) | (go_simp; rfl)); intro gb576 hg w22 hbox hb; have n0_ := Aside0.mk (below_step bw hb); have n1_ := Aside0.mk (hbox); have n2_ := Aside0.mk ((by rw [hg]; exact (below_size bw) : w.heap.size ≤ gb576)); have n3_ := Aside0.mk ((by rw [hg]; exact (below_size bw) : w.heap.size ≤ gb576)); clear HB; have HB := n0_; have BK576 := n1_; have GW576 := n2_; have GE576 := n3_; clear n0_ n1_ n2_ n3_; clear hb hbox hg; obtain ⟨hcz23_0, hcz23_1⟩ := ce2 BK576; obtain ⟨hfz23_0, hfz23_1⟩ := fz2 BK576) | ((with_reducible refine gate_callee (f := 127) rfl ?_); refine goesL_ (some 5) rfl rfl Tryz.func127 (by kernel_rfl) rfl #[.agg #[.slice A0_0 l0_0.length c0_0, .string a0_1], .string (⟨#[80, 114, 101, 99, 101, 100, 101, 110, 99, 101]⟩ : ByteArray)] rfl am ?_; (with_reducible refine (msg_Message_Word.calls k _ _ l0_0 a0_1 (⟨#[80, 114, 101, 99, 101, 100, 101, 110, 99, 101]⟩ : ByteArray) t577 _ ?side1 ?side2 A2.out).mono ?_); (case side1 => repeat (first | exact (Kd.C_below HR0_0.out HB.out) | (with_reducible refine Kd.C_alloc ?_ _) | (with_reducible refine Kd.C_drewN ?_ _) | (with_reducible refine Kd.C_drew ?_))); (case side2 => exact HC0_0.out); rintro e w24 ⟨rfl, hb⟩; refine ⟨_, rfl, ?_⟩; have n0_ := Aside0.mk (blk_below (g := gb576) (o := .cells #[.slice A0_0 l0_0.length c0_0, .string a0_1] 28 (0, 0)) bk hb); have n1_ := Aside0.mk (below_step bwS hb); clear BK576; clear HB; have BK576 := n0_; have HB := n1_; clear n0_ n1_; (try clear hb); (try clear hb2); (try clear hk); (try clear hi); obtain ⟨hcz25_0, hcz25_1⟩ := ce2 BK576; obtain ⟨hfz25_0, hfz25_1⟩ := fz2 BK576) | ((with_reducible refine gate_callee (f := 127) rfl ?_); refine goesL_ (some 11) rfl rfl Tryz.func127 (by kernel_rfl) rfl #[.agg #[.slice A0_0 l0_0.length c0_0, .string a0_1], .string (⟨#[65, 117, 116, 111, 45, 83, 117, 98, 109, 105, 116, 116, 101, 100]⟩ : ByteArray)] rfl am ?_; (with_reducible refine (msg_Message_Word.calls k _ _ l0_0 a0_1 (⟨#[65, 117, 116, 111, 45, 83, 117, 98, 109, 105, 116, 116, 101, 100]⟩ : ByteArray) t578 _ ?side1 ?side2 A15.out).mono ?_); (case side1 => repeat (first | exact (Kd.C_below HR0_0.out HB.out) | (with_reducible refine Kd.C_alloc ?_ _) | (with_reducible refine Kd.C_drewN ?_ _) | (with_reducible refine Kd.C_drew ?_))); (case side2 => exact HC0_0.out); rintro e w26 ⟨rfl, hb⟩; refine ⟨_, rfl, ?_⟩; have n0_ := Aside0.mk (blk_below (g := gb576) (o := .cells #[.slice A0_0 l0_0.length c0_0, .string a0_1] 28 (0, 0)) bk hb); have n1_ := Aside0.mk (below_step bwS hb); clear BK576; clear HB; have BK576 := n0_; have HB := n1_; clear n0_ n1_; (try clear hb); (try clear hb2); (try clear hk); (try clear hi)))
 go_ret
 exact ⟨ew, bwS⟩
end Go.Proofs.YtcndmhpeolbepaaGreatDoor.Fn
namespace Go.Proofs.YtcndmhpeolbepaaGreatDoor
open Go.ChangeShapes Go.WideShapes Go.ChangeAt
/-! What all rows of this seat share: a world that meets the condition; the premises as the walks want them. -/
theorem own : ownKnob Tryz.prog.godebug = none := by kernel_rfl
theorem laidOut : laidOutB Tryz.prog = true := by kernel_rfl
def listed : List (String × DataW Unit) := [("unicode/utf8.acceptRanges", Rows.laid_unicode_utf8_acceptRanges), ("unicode/utf8.first", Rows.laid_unicode_utf8_first)]
noncomputable def laidWorld (os : Os) : World :=
 let w0 := World.holding Tryz.prog os ⟨#[], #[], []⟩
 let put (h : Array Obj) (g : Nat) (cs : Array Value) : Array Obj := h.modify g fun
  | .cells _ t frozen => .cells cs t frozen
  | o => o
 let h1 := put w0.heap 5 (Lib.firstTab.map fun z => Value.int .u8 z).toArray
 let h2 := put h1 6 ((List.range 16).flatMap fun i => [Value.int .u8 (Lib.accLo i), Value.int .u8 (Lib.accHi i)]).toArray
 { w0 with heap := h2 }
set_option maxRecDepth 100000 in
theorem laid_met (os : Os) (args : Array Value) : laidMetH Tryz.prog listed ((laidWorld os).forCall (fun _ _ => 0) ⟨#[], args, []⟩).memory :=
 laidMetH_of_parts (laidMet_of_run' 8 (by kernel_rfl) (by kernel_rfl)) (by kernel_rfl)
theorem lift_both {H : Type} {enc : TypeId × Value → H} {a : Assume} {C : Checked} {os : Os} {f : FuncId} {fn : Func} {s : ChangeSpec} {conds : List PathCond} {apart fresh handsOn again : Bool} {X : World → Array Value → Prop}
  (hX : ∀ (w w' : World) (args : Array Value), w.heap = w'.heap → X w args → X w' args)
  (own : ownKnob C.prog.godebug = none) (started : os.Started) (noInit : C.prog.inits.idxOf? f = none) (hfn : C.prog.funcs[f]? = some fn)
  (witness : ∃ (w : World) (tape : Tape) (i : Input), w.os = os ∧ (w.forCall tape i).Shaped C.prog ∧ i.vars = [] ∧ Input.okWide C.prog (w.forCall tape i) .any w.heap.size f i ∧
   ((s.pre enc C.prog fn conds apart (w.forCall tape i).memory i.args ∧ X (w.forCall tape i).memory i.args) ∧ sizedMet enc C.prog fn (OpenSpec.ofChange s) apart (w.forCall tape i).memory i.args) ∧ a.holds C.prog (lone (Frame.enter C.prog f i.args .normal) [] (w.forCall tape i)))
  (contract : ∀ (W : World) (base : Nat) (args : Array Value) (ds gs : List (DataW H)) (before : List MemPlace),
   (∀ (j : Nat) t v, fn.params[j]? = some t → args[j]? = some v → Value.okWide C.prog W .any base t v) →
   DataW.Whole enc C.prog fn.params.toList s.vars apart W args.toList ds gs before →
   (DataW.weightsEach C.prog (fn.params.toList ++ s.plain.varTypes C.prog) (ds ++ gs)).all (· ≤ reachBytes) = true → X W args → W.ShapedOpen C.prog →
   Calls C.prog f args W fun e W' => ∃ v, e = .returned v ∧ s.post enc C.prog fn apart fresh handsOn again W args v W') :
  ReturnsInHanded a C os f .any (fun w args => (s.pre enc C.prog fn conds apart w args ∧ X w args) ∧ sizedMet enc C.prog fn (OpenSpec.ofChange s) apart w args) (s.post enc C.prog fn apart fresh handsOn again) := by
 refine returnsInHanded_of_calls own started noInit witness ?_
 intro w tape i _ hsh _ hok hpre _
 obtain ⟨_, _, _, fn', hfn', _, _, _, _, hval⟩ := hok
 have e : fn' = fn := Option.some.inj (hfn'.symm.trans hfn)
 subst e
 obtain ⟨⟨⟨ds, gs, before, hw, _⟩, hx⟩, hz⟩ := hpre
 have hw' := DataW.Whole.of_heap (w' := w.forCall tape i) (by rfl) hw
 refine (contract (w.forCall tape i) w.heap.size i.args ds gs before hval hw' (hz.weights hw) (hX _ _ _ (by rfl) hx) hsh).mono fun e W' ⟨v, he, hp⟩ => ?_
 subst he
 exact ChangeSpec.post_blind hp
end Go.Proofs.YtcndmhpeolbepaaGreatDoor
namespace Go.Proofs.YtcndmhpeolbepaaGreatDoor.Fn
/-! The package variables that the walks read: unicode/utf8's tables; internal/bytealg.MaxLen, some number. -/
structure Glob (w : World) : Prop where
 tabs : Lib.Utf8Tabs 5 6 w
 max : ∃ m : Int, w.cell? ⟨2, 0, none⟩ = some (.int .i64 m)
theorem cell_inside {w : World} {a : Addr} {v : Value} (h : w.cell? a = some v) : a.block < w.heap.size := by
 obtain ⟨o, ho, _⟩ := not_walk_of_cell h
 exact (Array.getElem?_eq_some_iff.1 ho).1
theorem Glob.below {w W : World} (h : Glob w) (hb : Below w.heap.size w W) : Glob W := by
 obtain ⟨m, hm⟩ := h.max
 exact ⟨Utf8Tabs_below h.tabs hb, m, (hb.cell (cell_inside hm)).trans hm⟩
theorem Glob.drawn {w W : World} (h : Glob w) (hd : Drawn0 w W) : Glob W := h.below hd.below
theorem glob_of {W : World} (hL : laidMetH Tryz.prog listed W) (hS : W.ShapedOpen Tryz.prog) : Glob W := by
 have hL' : laidMet Tryz.prog listed W := hL
 have h1 : Lib.VarReads Tryz.prog W "unicode/utf8.first" Lib.firstData := by
  have := Lib.laidMet.reads hL' (n := "unicode/utf8.first") (d := Rows.laid_unicode_utf8_first) (.tail _ (.head _))
  rw [show Rows.laid_unicode_utf8_first = Lib.firstData from Pinned.utf8First_eq] at this
  exact this
 have h2 : Lib.VarReads Tryz.prog W "unicode/utf8.acceptRanges" Lib.acceptData := Lib.laidMet.reads hL' (.head _)
 refine ⟨utf8Tabs_of_reads (ρ := Tryz.lays260_ren) Tryz.lays260 ⟨by kernel_rfl, by kernel_rfl, by kernel_rfl, by kernel_rfl, by kernel_rfl, by kernel_rfl, by kernel_rfl⟩ h1 h2, ?_⟩
 exact cell_of_shapedOpen_int (P := Tryz.prog) (g := 2) (t := 3) (zero := #[.int .i64 0]) hS (of_decide_eq_true (by kernel_rfl)) (by kernel_rfl) rfl (by kernel_rfl) (by kernel_rfl) Tryz.underlying3
def strings_SplitN.f (a0 a1 : ByteArray) (a2 : Int) : Option (List ByteArray) :=
 if a0.size < 4294967281 then (if 1 ≤ a1.size then (if 1 ≤ a2 ∧ a2 ≤ 1000 then some (Lib.splitB a1 0 (min a2.toNat (a0.size + 1) - 1) a0) else none) else none) else none
theorem strings_SplitN.calls (a0 a1 : ByteArray) (a2 : Int) (r : List ByteArray) (w : World) (hG : Glob w) (h : strings_SplitN.f a0 a1 a2 = some r) :
  Calls Tryz.prog 131 #[.string a0, .string a1, .int .i64 a2] w fun e w' => ∃ v0_ : Value, e = .returned (v0_) ∧ Kd.R Kd.string 9 w' w.heap.size (fun _ => True) v0_ r ∧ Below w.heap.size w w' := by
 unfold strings_SplitN.f at h
 by_cases hs : a0.size < 4294967281
 ·rw [if_pos hs] at h
  by_cases h1 : 1 ≤ a1.size
  ·rw [if_pos h1] at h
   by_cases h2 : 1 ≤ a2 ∧ a2 ≤ 1000
   ·rw [if_pos h2] at h
    have HR := Option.some.inj h
    clear h
    subst HR
    obtain ⟨m, hm⟩ := hG.max
    obtain ⟨n, rfl⟩ : ∃ n : Nat, a2 = n := ⟨a2.toNat, by omega⟩
    refine (Tryz.strings_SplitN a0 a1 n m w hs hm h1 (by omega) (by omega)).mono ?_
    rintro e w' ⟨rfl, rfl⟩
    have hl := Lib.splitB_length_le a1 0 (min n (a0.size + 1) - 1) a0
    have hle : (Lib.splitB a1 0 (min n (a0.size + 1) - 1) a0).length ≤ min n (a0.size + 1) := by omega
    refine ⟨_, rfl, Kd.R_of_own ⟨by simp [encs], .inr ⟨w.heap.size, min n (a0.size + 1), _, rfl, Nat.le_refl _, World.alloc_heap_new w _, ?_, ?_, ?_, ?_⟩⟩ (fun _ _ => trivial), (Below.refl _ w).alloc (Nat.le_refl _) _⟩
    ·exact hle
    ·unfold maxLen; omega
    ·rw [Lib.cellsOf_size hle, Nat.mul_one]
    simp [Lib.cellsOf, encs]
   rw [if_neg h2] at h; exact absurd h (by simp)
  rw [if_neg h1] at h; exact absurd h (by simp)
 rw [if_neg hs] at h; exact absurd h (by simp)
def strings_Contains.f (a0 a1 : ByteArray) : Option Bool := if a0.size < 4294967281 then some (Lib.contains a0.data.toList a1.data.toList) else none
theorem strings_Contains.calls (a0 a1 : ByteArray) (r : Bool) (w : World) (hG : Glob w) (h : strings_Contains.f a0 a1 = some r) :
  Calls Tryz.prog 58 #[.string a0, .string a1] w fun e w' => e = .returned (.bool r) ∧ Below w.heap.size w w' := by
 unfold strings_Contains.f at h
 by_cases hs : a0.size < 4294967281
 ·rw [if_pos hs] at h
  have HR := Option.some.inj h
  subst HR
  obtain ⟨m, hm⟩ := hG.max
  refine (Tryz.strings_Contains a0 a1 m w hs hm).mono ?_
  rintro e w' ⟨rfl, rfl⟩
  exact ⟨rfl, Below.refl _ _⟩
 rw [if_neg hs] at h
 exact absurd h (by simp)
end Go.Proofs.YtcndmhpeolbepaaGreatDoor.Fn
set_option linter.unusedVariables false
namespace Go.Proofs.YtcndmhpeolbepaaGreatDoor.Pl
def badAt (s : ByteArray) (pos : Nat) : Bool := (Utf8.decode s pos).1 == 65533 && (Utf8.decode s pos).2 == 1
def validFrom (s : ByteArray) : Nat → Nat → Bool
 | 0, _ => true
 | f + 1, pos => if pos < s.size then (if badAt s pos = true then false else validFrom s f (pos + (Utf8.decode s pos).2)) else true
def valid (s : ByteArray) : Bool := validFrom s s.size 0
end Go.Proofs.YtcndmhpeolbepaaGreatDoor.Pl
namespace Go.Proofs.YtcndmhpeolbepaaGreatDoor.Fn
open Go.RowKit Go.Proofs.YtcndmhpeolbepaaGreatDoorW.PrintWords

def glyph_Valid.f (a0 : ByteArray) : Option Bool := if a0.size ≤ 35184372088832 then some (Pl.valid a0) else none

set_option maxHeartbeats 4000000 in
set_option maxRecDepth 100000 in
theorem glyph_bad_calls (a0 : ByteArray) (at_ : Nat) (w : World) (hG : Glob w) (hat : at_ < a0.size) (hs : a0.size ≤ 35184372088832) :
  Calls Tryz.prog 192 #[.string a0, .int .i64 at_, .int .i32 (Utf8.decode a0 at_).1] w fun e w' => e = .returned (.bool (Pl.badAt a0 at_)) ∧ Below w.heap.size w w' := by
 have HG := hid hG.tabs
 have hT : Lib.decodeGo (a0.extract at_ a0.size) = Utf8.decode a0 at_ := by
  unfold Lib.decodeGo
  rw [if_neg (by rw [Lib.tail_size]; omega), Lib.tail_decode, Nat.add_zero]
 by_cases h1 : (Utf8.decode a0 at_).1 = 65533
 ·have hb : Pl.badAt a0 at_ = ((Utf8.decode a0 at_).2 == 1) := by unfold Pl.badAt; rw [h1]; rfl
  have hi : (((Utf8.decode a0 at_).2 : Int) == 1) = ((Utf8.decode a0 at_).2 == 1) := by
   rw [Bool.eq_iff_iff, beq_iff_eq, beq_iff_eq]
   omega
  rw [hb, h1]
  have hle : ((at_ : Int) ≤ (a0.size : Int)) = True := eq_true (by omega)
  go_enter Tryz.func192, Tryz.ntmps192
  go_wp2_with (go_at_call 140; refine (Tryz.utf8_DecodeRuneInString (a0.extract at_ a0.size) _ HG.out).mono ?_; rintro e W1 ⟨rfl, b1⟩; rw [hT])
  go_ret
  exact ⟨by rw [← hi]; rfl, b1⟩
 have hb : Pl.badAt a0 at_ = false := by unfold Pl.badAt; simp [h1]
 have hn : (((Utf8.decode a0 at_).1 : Int) != 65533) = true := by rw [bne_iff_ne]; omega
 have hn2 : (((Utf8.decode a0 at_).1 : Int) = 65533) = False := eq_false (by omega)
 rw [hb]
 go_enter Tryz.func192, Tryz.ntmps192
 go_wp2
 go_ret
 exact ⟨rfl, Below.refl _ _⟩

set_option maxHeartbeats 4000000 in
set_option maxRecDepth 100000 in
theorem glyph_Valid.calls (a0 : ByteArray) (r : Bool) (w : World) (hG : Glob w) (h : glyph_Valid.f a0 = some r) :
  Calls Tryz.prog 163 #[.string a0] w fun e w' => e = .returned (.bool r) ∧ Below w.heap.size w w' := by
 unfold glyph_Valid.f at h
 by_cases hs : a0.size ≤ 35184372088832
 ·rw [if_pos hs] at h
  have HR := hid (Option.some.inj h)
  have HG := hid hG
  clear h hG
  go_enter Tryz.func163, Tryz.ntmps163
  go_wp2
  go_loopw [] (fun wr => ∃ (pos fuel : Nat), wr.heap[w.heap.size]? = some (.stringIter a0 pos) ∧ Below w.heap.size w wr ∧ Hid (Pl.validFrom a0 fuel pos = r) ∧ a0.size ≤ pos + fuel) (fun wr => a0.size - wr.iterPos w.heap.size)
  case atStart =>
   refine ⟨0, a0.size, ?_, (Below.refl _ w).alloc (by simp) _, HR.out, by omega⟩
   have := World.iter_heap w a0 0
   simpa using this
  case round =>
   obtain ⟨pos, fuel, hit, hbw, hacc, hfu⟩ := hrel
   have hsz : w.heap.size < wr.heap.size := (Array.getElem?_eq_some_iff.1 hit).1
   by_cases hp : pos < a0.size
   ·have hnx : ∀ ty, (Instr.next (.pointer (some ⟨w.heap.size, 0, none⟩)) true ty).run Tryz.prog wr = _ := fun ty => Lib.run_next_any_at wr w.heap.size a0 pos ty hit hp
    have hwd : 1 ≤ (Utf8.decode a0 pos).2 := Pl.width_pos a0 pos hp
    have hit2 := Lib.iterAt_heap wr w.heap.size a0 pos (pos + (Utf8.decode a0 pos).2) hit
    have hbw2 := Lib.below_iterAt hbw (k := w.heap.size) (by omega) a0 (pos + (Utf8.decode a0 pos).2)
    have HG2 := hid (HG.out.below hbw2)
    obtain ⟨f, rfl⟩ : ∃ f, fuel = f + 1 := ⟨fuel - 1, by omega⟩
    have HC := hid (glyph_bad_calls a0 pos _ HG2.out hp hs)
    cases hc : Pl.badAt a0 pos with
    | false =>
     have hstep : Hid (Pl.validFrom a0 f (pos + (Utf8.decode a0 pos).2) = r) := by
      have := hacc.out
      rw [Pl.validFrom, if_pos hp, hc, if_neg (by decide)] at this
      exact this
     clear hacc
     go_wp2_with (go_at_call 192; refine HC.out.mono ?_; rintro e W0 ⟨rfl, b0⟩; rw [hc])
     go_roundw
     case rel =>
      refine ⟨pos + (Utf8.decode a0 pos).2, f, ?_, hbw2.trans (b0.mono (by rw [Lib.iterAt_size]; omega)), hstep, by omega⟩
      rw [b0.block w.heap.size (by rw [Lib.iterAt_size]; exact hsz)]
      exact hit2
     case measure =>
      have hit3 : W0.heap[w.heap.size]? = some (.stringIter a0 (pos + (Utf8.decode a0 pos).2)) := by
       rw [b0.block w.heap.size (by rw [Lib.iterAt_size]; exact hsz)]
       exact hit2
      simp only [World.iterPos, hit3, hit]
      omega
    | true =>
     have hstep : Hid (false = r) := by
      have := hacc.out
      rw [Pl.validFrom, if_pos hp, hc, if_pos rfl] at this
      exact this
     clear hacc
     go_wp2_with (go_at_call 192; refine HC.out.mono ?_; rintro e W0 ⟨rfl, b0⟩; rw [hc])
     go_ret
     exact ⟨by rw [← hstep.out]; rfl, hbw2.trans (b0.mono (by rw [Lib.iterAt_size]; omega))⟩
   have hnx : ∀ ty, (Instr.next (.pointer (some ⟨w.heap.size, 0, none⟩)) true ty).run Tryz.prog wr = _ := fun ty => Lib.run_next_end_at wr w.heap.size a0 pos ty hit hp
   have hend : Hid (r = true) := by
    have := hacc.out
    show _ = _
    cases fuel with
    | zero => rw [Pl.validFrom] at this; exact this.symm
    | succ f => rw [Pl.validFrom, if_neg hp] at this; exact this.symm
   clear hacc
   go_wp2
   go_ret
   exact ⟨by rw [hend.out]; rfl, hbw⟩
 rw [if_neg hs] at h
 exact absurd h (by simp)
end Go.Proofs.YtcndmhpeolbepaaGreatDoor.Fn
namespace Go.Proofs.YtcndmhpeolbepaaGreatDoor.Pl
/-! Layer 19 (and what it asks of 17 and 18), over lists of bytes: definitions. -/
def rawFrom (s : ByteArray) : Nat → Nat → List Nat
 | 0, _ => []
 | f + 1, pos => if pos < s.size then (Utf8.decode s pos).1 :: rawFrom s f (pos + (Utf8.decode s pos).2) else []
def hexD (c : UInt8) : Option Nat := if 48 ≤ c.toNat ∧ c.toNat ≤ 57 then some (c.toNat - 48) else if 65 ≤ c.toNat ∧ c.toNat ≤ 70 then some (c.toNat - 55) else if 97 ≤ c.toNat ∧ c.toNat ≤ 102 then some (c.toNat - 87) else none
def hexB (a b : UInt8) : Option UInt8 := (hexD a).bind fun x => (hexD b).bind fun y => some (UInt8.ofNat (16 * x + y))
def quotedF : Nat → Bytes → Option Bytes
 | 0, _ => some []
 | _ + 1, [] => some []
 | f + 1, c :: r => if c = 95 then (quotedF f r).map (32 :: ·) else if c = 61 then (if 2 ≤ r.length then (hexB (r.getD 0 0) (r.getD 1 0)).bind fun x => (quotedF f (r.drop 2)).map (x :: ·) else none) else (quotedF f r).map (c :: ·)
def quotedL (l : Bytes) : Option Bytes := quotedF l.length l
def b64C (n : Nat) : UInt8 := if n < 26 then UInt8.ofNat (65 + n) else if n < 52 then UInt8.ofNat (71 + n) else if n < 62 then UInt8.ofNat (n - 4) else if n = 62 then 43 else 47
def grp (a b c : Nat) : Bytes := [b64C ((a * 65536 + b * 256 + c) / 262144 % 64), b64C ((a * 65536 + b * 256 + c) / 4096 % 64), b64C ((a * 65536 + b * 256 + c) / 64 % 64), b64C ((a * 65536 + b * 256 + c) % 64)]
def b64P : Bytes → Bytes
 | [] => []
 | [a] => (grp a.toNat 0 0).take 2 ++ [61, 61]
 | [a, b] => (grp a.toNat b.toNat 0).take 3 ++ [61]
 | a :: b :: c :: r => grp a.toNat b.toNat c.toNat ++ b64P r
def b64V (c : UInt8) : Option Nat := if 65 ≤ c.toNat ∧ c.toNat ≤ 90 then some (c.toNat - 65) else if 97 ≤ c.toNat ∧ c.toNat ≤ 122 then some (c.toNat - 71) else if 48 ≤ c.toNat ∧ c.toNat ≤ 57 then some (c.toNat + 4) else if c = 43 then some 62 else if c = 47 then some 63 else none
def b64D : Bytes → Nat → Nat → Bytes → Option Bytes
 | [], _, _, acc => some acc
 | c :: r, h, n, acc => (b64V c).bind fun k => if 8 ≤ n + 6 then b64D r ((h * 64 + k) % 2 ^ (n - 2)) (n - 2) (acc ++ [UInt8.ofNat ((h * 64 + k) / 2 ^ (n - 2))]) else b64D r (h * 64 + k) (n + 6) acc
def whiteC (c : UInt8) : Bool := c == 32 || (c == 9 || (c == 13 || c == 10))
def bareL (l : Bytes) : Bytes := l.filter fun c => !whiteC c
def b64L (l : Bytes) : Option Bytes := (b64D (Lib.trimRightS (bareL l) [61]) 0 0 []).bind fun b => if b64P b = bareL l then some b else none
def solidL (l : Bytes) : Bool := l.all fun c => decide (33 ≤ c.toNat) && decide (c.toNat ≤ 126)
def octL (k t : Bytes) : Option Bytes := if k = [113] ∨ k = [81] then quotedL t else if k = [98] ∨ k = [66] then b64L t else none
def asciiL (l : Bytes) : Bool := l.all fun c => decide (c.toNat ≤ 127)
def signsL (cs s : Bytes) : Option Bytes :=
 if fold cs = [117, 115, 45, 97, 115, 99, 105, 105] then (if asciiL s = true then some s else none)
 else if fold cs = [117, 116, 102, 45, 56] then (if valid (str s) = true then some s else none)
 else if fold cs = [105, 115, 111, 45, 56, 56, 53, 57, 45, 49] then some (s.flatMap fun c => er c.toNat)
 else none
def upQ : Bytes → Option (Bytes × Bytes)
 | [] => none
 | c :: r => if c = 63 then some ([], r) else (upQ r).map fun x => (c :: x.1, x.2)
def ewN (a k t : Bytes) : Nat := 2 + a.length + 1 + k.length + 1 + t.length + 2
def wordL (s : Bytes) : Option (Bytes × Nat) :=
 if s.take 2 = [61, 63] then
  (upQ (s.drop 2)).bind fun a => (upQ a.2).bind fun k => (upQ k.2).bind fun t =>
   if (a.1 ≠ [] ∧ solidL a.1 = true ∧ solidL t.1 = true ∧ t.2.take 1 = [61]) ∧ ewN a.1 k.1 t.1 ≤ 75 then
    (octL k.1 t.1).bind fun b => (signsL a.1 b).bind fun x => some (x, ewN a.1 k.1 t.1) else none
 else none
def trimB (l : Bytes) : Bytes := Lib.trimLeftS l [32, 9]
def decL : Nat → Bytes → Bytes → Bytes
 | 0, _, acc => acc
 | _ + 1, [], acc => acc
 | f + 1, c :: r, acc => match wordL (c :: r) with
  | none => decL f r (acc ++ [c])
  | some x => decL f (if (wordL (trimB ((c :: r).drop x.2))).isSome = true then trimB ((c :: r).drop x.2) else (c :: r).drop x.2) (acc ++ x.1)
def decodeL (l : Bytes) : Bytes := decL l.length l []
end Go.Proofs.YtcndmhpeolbepaaGreatDoor.Pl
set_option linter.unusedVariables false
set_option linter.unusedSimpArgs false
namespace Go.Proofs.YtcndmhpeolbepaaGreatDoor.Pl
open Go.RowKit Go.Proofs.YtcndmhpeolbepaaGreatDoorW.PrintWords
def signsR (cs s : ByteArray) : ByteArray × Bool :=
 if fold (bs cs) = [117, 115, 45, 97, 115, 99, 105, 105] then (if asciiL (bs s) = true then (s, true) else (str [], false))
 else if fold (bs cs) = [117, 116, 102, 45, 56] then (s, valid s)
 else if fold (bs cs) = [105, 115, 111, 45, 56, 56, 53, 57, 45, 49] then (str ((bs s).flatMap fun c => er c.toNat), true)
 else (str [], false)
end Go.Proofs.YtcndmhpeolbepaaGreatDoor.Pl
namespace Go.Proofs.YtcndmhpeolbepaaGreatDoor.Fn
open Go.RowKit Go.Proofs.YtcndmhpeolbepaaGreatDoorW.PrintWords

def ew_signs.f (a0 a1 : ByteArray) : Option (ByteArray × Bool) := if a0.size ≤ 1000000000 ∧ a1.size ≤ 1000000000 then some (Pl.signsR a0 a1) else none
set_option maxHeartbeats 4000000 in
set_option maxRecDepth 100000 in
theorem ew_signs.calls (a0 a1 r1 : ByteArray) (r2 : Bool) (w : World) (hG : Glob w) (h : ew_signs.f a0 a1 = some (r1, r2)) :
  Calls Tryz.prog 135 #[.string a0, .string a1] w fun e w' => e = .returned (.tuple #[.string r1, .bool r2]) ∧ Below w.heap.size w w' := by
 unfold ew_signs.f at h
 by_cases hs : a0.size ≤ 1000000000 ∧ a1.size ≤ 1000000000
 ·rw [if_pos hs] at h
  have hr := Option.some.inj h
  clear h
  have hf : glyph_Fold.f a0 = some (Pl.str (Pl.fold (Pl.bs a0))) := by unfold glyph_Fold.f; rw [if_pos (by omega)]; rfl
  obtain ⟨F, hF⟩ : ∃ F, Pl.str (Pl.fold (Pl.bs a0)) = F := ⟨_, rfl⟩
  rw [hF] at hf
  have hl : F.toList = Pl.fold (Pl.bs a0) := by rw [← hF, Pl.toList_str]
  have HF := hid hf
  have HG := hid hG
  unfold Pl.signsR at hr
  rw [← hl] at hr
  clear hf hF hl hG
  by_cases h1 : F.toList = [117, 115, 45, 97, 115, 99, 105, 105]
  ·rw [if_pos h1] at hr
   have c1 : (F.toList == [117, 115, 45, 97, 115, 99, 105, 105]) = true := beq_iff_eq.2 h1
   have HR := hid hr
   clear hr h1
   go_enter Tryz.func135, Tryz.ntmps135
   go_wp2_with (go_at_call 18; refine (glyph_Fold.calls a0 F _ HF.out).mono ?_; rintro e W1 ⟨rfl, b1⟩)
   go_loopw [15] (fun v15 wr => ∃ k : Nat, k ≤ a1.size ∧ v15 = .int .i64 k ∧ Below w.heap.size w wr ∧ Hid (Pl.asciiL ((Pl.bs a1).take k) = true)) (fun v15 _ => a1.size - (intOf v15).toNat)
   case atStart => exact ⟨0, Nat.zero_le _, rfl, b1, rfl⟩
   case round =>
    obtain ⟨k, hk, rfl, hB, hA⟩ := hrel
    by_cases hlt : k < a1.size
    ·have hsn := Pl.take_snoc a1 k hlt
     have hA2 : Hid (Pl.asciiL ((Pl.bs a1).take (k + 1)) = decide (a1[k].toNat ≤ 127)) := by
      show Pl.asciiL (a1.data.toList.take (k + 1)) = _
      rw [hsn]
      have : Pl.asciiL (a1.data.toList.take k) = true := hA.out
      unfold Pl.asciiL at this ⊢
      rw [List.all_append, this]
      simp
     clear hsn hA
     by_cases hc : 127 < (a1[k].toNat : Int)
     ·have hN : Hid (Pl.asciiL (Pl.bs a1) = false) := by
       show _ = _
       have h2 := hA2.out
       rw [decide_eq_false (by omega)] at h2
       rw [← List.take_append_drop (k + 1) (Pl.bs a1)]
       unfold Pl.asciiL at h2 ⊢
       rw [List.all_append, h2]
       rfl
      have HR' := HR.out
      rw [hN.out, if_neg (by decide)] at HR'
      injection HR' with e1 e2
      subst e1 e2
      clear hA2 hN HR
      go_wp2
      go_ret2
      exact ⟨rfl, hB⟩
     have hc2 : (a1[k].toNat : Int) ≤ 127 := by omega
     have hA3 : Hid (Pl.asciiL ((Pl.bs a1).take (k + 1)) = true) := by
      show _ = _
      rw [hA2.out]
      exact decide_eq_true (by omega)
     clear hA2 hc
     go_wp2
     go_roundw
     case rel => exact ⟨k + 1, by omega, by go_num, hB, hA3⟩
     case measure => simp [intOf]; omega
    have hA3 : Pl.asciiL (Pl.bs a1) = true := by
     have := hA.out
     rwa [List.take_of_length_le (by rw [Pl.bs_length]; omega)] at this
    have HR' := HR.out
    rw [hA3, if_pos rfl] at HR'
    injection HR' with e1 e2
    subst e1 e2
    clear hA3 hA HR
    go_wp2
    go_ret2
    exact ⟨rfl, hB⟩
  rw [if_neg h1] at hr
  have c1 : (F.toList == [117, 115, 45, 97, 115, 99, 105, 105]) = false := beq_eq_false_iff_ne.2 h1
  by_cases h2 : F.toList = [117, 116, 102, 45, 56]
  ·rw [if_pos h2] at hr
   injection hr with e1 e2
   have hv : glyph_Valid.f a1 = some r2 := by unfold glyph_Valid.f; rw [if_pos (by omega), e2]
   subst e1
   have c2 : (F.toList == [117, 116, 102, 45, 56]) = true := beq_iff_eq.2 h2
   have HV := hid hv
   clear hv e2
   go_enter Tryz.func135, Tryz.ntmps135
   go_wp2_with (first | (go_at_call 18; refine (glyph_Fold.calls a0 F _ HF.out).mono ?_; rintro e W1 ⟨rfl, b1⟩; have hG1 := hid (HG.out.below b1)) | (go_at_call 163; refine (glyph_Valid.calls a1 r2 _ hG1.out HV.out).mono ?_; rintro e W2 ⟨rfl, b2⟩))
   go_ret2
   exact ⟨rfl, b1.trans (b2.mono b1.size)⟩
  rw [if_neg h2] at hr
  have c2 : (F.toList == [117, 116, 102, 45, 56]) = false := beq_eq_false_iff_ne.2 h2
  by_cases h3 : F.toList = [105, 115, 111, 45, 56, 56, 53, 57, 45, 49]
  ·rw [if_pos h3] at hr
   injection hr with e1 e2
   subst e2
   have c3 : (F.toList == [105, 115, 111, 45, 56, 56, 53, 57, 45, 49]) = true := beq_iff_eq.2 h3
   have HR := hid e1
   clear e1
   go_enter Tryz.func135, Tryz.ntmps135
   go_wp2_with (go_at_call 18; refine (glyph_Fold.calls a0 F _ HF.out).mono ?_; rintro e W1 ⟨rfl, b1⟩)
   have hB1 := b1.size
   go_loopw [33] (fun v33 wr => ∃ k : Nat, k ≤ a1.size ∧ v33 = .int .i64 k ∧ isBd W1.heap.size W1.heap.size (Lib.byteCells (((Pl.bs a1).take k).flatMap fun c => Pl.er c.toNat)) wr ∧ Below W1.heap.size W1 wr ∧ (((Pl.bs a1).take k).flatMap fun c => Pl.er c.toNat).length ≤ 4 * k) (fun v33 _ => a1.size - (intOf v33).toNat)
   case atStart => exact ⟨0, Nat.zero_le _, rfl, Lib.IsBuilderF.of (Lib.fresh_isBuilder _ _ W1), (Below.refl _ W1).alloc (Nat.le_refl _) _, by simp⟩
   case round =>
    obtain ⟨k, hk, rfl, hI, hB, hl⟩ := hrel
    have hB2 := hB.size
    by_cases hlt : k < a1.size
    ·have hct := a1[k].toNat_lt
     have hsn : ((Pl.bs a1).take (k + 1)).flatMap (fun c => Pl.er c.toNat) = ((Pl.bs a1).take k).flatMap (fun c => Pl.er c.toNat) ++ Pl.er a1[k].toNat := by
      rw [show (Pl.bs a1).take (k + 1) = (Pl.bs a1).take k ++ [a1[k]] from Pl.take_snoc a1 k hlt]
      simp
     have hl4 := Lib.runeCells_le (a1[k].toNat : Int)
     have hE : Lib.byteCells (Pl.er a1[k].toNat) = Lib.runeCells (a1[k].toNat : Int) := Lib.byteCells_encodeRune _
     have hE2 : (Pl.er a1[k].toNat).length ≤ 4 := by
      rw [Lib.runeCells_length] at hl4
      exact hl4.2
     have HS := hid hsn
     have HE := hid hE
     clear hsn hl4 hE
     go_wp2_with (go_at_call 94; refine (bd_rune W1.heap.size W1.heap.size _ _ (by omega) (by omega) _ hI (by rw [Lib.byteCells_length]; omega) hB2).mono ?_; rintro e W2 ⟨rfl, h1, b2, _⟩)
     go_roundw
     case rel =>
      refine ⟨k + 1, by omega, by go_num, ?_, hB.trans b2, ?_⟩
      ·rw [HS.out, Lib.byteCells_append, HE.out]; exact h1.is
      rw [HS.out, List.length_append]; omega
     case measure => simp [intOf]; omega
    have hend : Hid (((Pl.bs a1).take k).flatMap (fun c => Pl.er c.toNat) = (Pl.bs a1).flatMap (fun c => Pl.er c.toNat)) := by
     show _ = _
     rw [List.take_of_length_le (by rw [Pl.bs_length]; omega)]
    go_wp2_with (go_at_call 49; refine (Tryz.Builder_String_any_k W1.heap.size W1.heap.size _ _ hI hB2).mono ?_; rintro e W2 ⟨rfl, _, b2, _⟩)
    go_ret2
    refine ⟨?_, b1.trans ((hB.trans b2).mono hB1)⟩
    rw [← HR.out, ← hend.out]
    rfl
  rw [if_neg h3] at hr
  injection hr with e1 e2
  subst e1 e2
  have c3 : (F.toList == [105, 115, 111, 45, 56, 56, 53, 57, 45, 49]) = false := beq_eq_false_iff_ne.2 h3
  go_enter Tryz.func135, Tryz.ntmps135
  go_wp2_with (go_at_call 18; refine (glyph_Fold.calls a0 F _ HF.out).mono ?_; rintro e W1 ⟨rfl, b1⟩)
  go_ret2
  exact ⟨rfl, b1⟩
 rw [if_neg hs] at h; exact absurd h (by simp)
end Go.Proofs.YtcndmhpeolbepaaGreatDoor.Fn
namespace Go.Proofs.YtcndmhpeolbepaaGreatDoor.Pl
/-! Count, Valid, Clip of a text of good signs. -/
theorem enc_app (a b : List Nat) : enc (a ++ b) = enc a ++ enc b := by simp [enc]
theorem enc_cons (r : Nat) (b : List Nat) : enc (r :: b) = er r ++ enc b := by simp [enc]
/-! A line's words as texts of good signs: cleaned, folded, cut, joined. -/
theorem er_low (r : Nat) (h : r < 128) : er r = [UInt8.ofNat r] := by
 unfold er Lib.encodeRune
 rw [Lib.encodeRuneZ_one (by omega) (by omega)]
 rfl
def n2 : List Nat → Prop
 | a :: b :: r => ¬ (a = 32 ∧ b = 32) ∧ n2 (b :: r)
 | _ => True
def b2 : Bytes → Prop
 | a :: b :: r => ¬ (a = 32 ∧ b = 32) ∧ b2 (b :: r)
 | _ => True
end Go.Proofs.YtcndmhpeolbepaaGreatDoor.Pl
set_option linter.unusedVariables false
set_option linter.unusedSimpArgs false
namespace Go.Proofs.YtcndmhpeolbepaaGreatDoor.Pl
open Go.Proofs.YtcndmhpeolbepaaGreatDoorW.PrintWords
def sameN (a b : ByteArray) : Bool := (str (fold (bs a))).toList == (str (fold (bs b))).toList
end Go.Proofs.YtcndmhpeolbepaaGreatDoor.Pl
namespace Go.Proofs.YtcndmhpeolbepaaGreatDoor.Fn
open Go.RowKit Go.Proofs.YtcndmhpeolbepaaGreatDoorW.PrintWords

theorem headsame_is (a b : ByteArray) (ha : a.size ≤ 35184372088832) (hb : b.size ≤ 35184372088832) : head_same.f a b = some (Pl.sameN a b) := by
 unfold head_same.f glyph_Fold.f Pl.sameN
 rw [if_pos ha, if_pos hb]
 rfl
def askN (name : ByteArray) (x : S54) : Bool := Pl.sameN x.f0 name
end Go.Proofs.YtcndmhpeolbepaaGreatDoor.Fn
set_option linter.unusedVariables false
set_option linter.unusedSimpArgs false
namespace Go.Proofs.YtcndmhpeolbepaaGreatDoor.Pl
open Go.Proofs.YtcndmhpeolbepaaGreatDoorW.PrintWords
variable {α : Type}
/-! Layer 15: are two names the same? -/
end Go.Proofs.YtcndmhpeolbepaaGreatDoor.Pl
namespace Go.Proofs.YtcndmhpeolbepaaGreatDoor.Fn
open Go.RowKit Go.Proofs.YtcndmhpeolbepaaGreatDoorW.PrintWords

end Go.Proofs.YtcndmhpeolbepaaGreatDoor.Fn
set_option linter.unusedVariables false
set_option linter.unusedSimpArgs false
namespace Go.Proofs.YtcndmhpeolbepaaGreatDoor.Pl
open Go.RowKit Go.Proofs.YtcndmhpeolbepaaGreatDoorW.PrintWords
end Go.Proofs.YtcndmhpeolbepaaGreatDoor.Pl
namespace Go.Proofs.YtcndmhpeolbepaaGreatDoor.Fn
open Go.RowKit Go.Proofs.YtcndmhpeolbepaaGreatDoorW.PrintWords

end Go.Proofs.YtcndmhpeolbepaaGreatDoor.Fn
namespace Go.Proofs.YtcndmhpeolbepaaGreatDoor.Fn
def b64_group.f (a0 : ByteArray) : Option ByteArray := if 1 ≤ a0.size ∧ a0.size ≤ 3 then some (Pl.str (Pl.b64P (Pl.bs a0))) else none
def gN (l : List UInt8) : Nat → Nat
 | 0 => 0
 | i + 1 => gN l i * 256 + (l.getD i 0).toNat
def arrG (c0 c1 c2 c3 : Int) : Nat → Array Value
 | 0 => #[.int .u8 0, .int .u8 0, .int .u8 0, .int .u8 0]
 | 1 => #[.int .u8 0, .int .u8 0, .int .u8 0, .int .u8 c0]
 | 2 => #[.int .u8 0, .int .u8 0, .int .u8 c1, .int .u8 c0]
 | 3 => #[.int .u8 0, .int .u8 c2, .int .u8 c1, .int .u8 c0]
 | _ => #[.int .u8 c3, .int .u8 c2, .int .u8 c1, .int .u8 c0]
def letA : ByteArray := ByteArray.mk #[65, 66, 67, 68, 69, 70, 71, 72, 73, 74, 75, 76, 77, 78, 79, 80, 81, 82, 83, 84, 85, 86, 87, 88, 89, 90, 97, 98, 99, 100, 101, 102, 103, 104, 105, 106, 107, 108, 109, 110, 111, 112, 113, 114, 115, 116, 117, 118, 119, 120, 121, 122, 48, 49, 50, 51, 52, 53, 54, 55, 56, 57, 43, 47]
theorem let_at : ∀ (n : Fin 64) h, ((letA)[n.val]'h).toNat = (Pl.b64C n.val).toNat := by decide +kernel
theorem gN_lt (l : List UInt8) : ∀ i, gN l i < 256 ^ i
 | 0 => by simp [gN]
 | i + 1 => by
  have := gN_lt l i
  have h2 := (l.getD i 0).toNat_lt
  rw [gN, Nat.pow_succ]
  omega
theorem list1 {l : List UInt8} (h : l.length = 1) : ∃ x, l = [x] := by
 match l, h with
 | [x], _ => exact ⟨x, rfl⟩
theorem list2 {l : List UInt8} (h : l.length = 2) : ∃ x y, l = [x, y] := by
 match l, h with
 | [x, y], _ => exact ⟨x, y, rfl⟩
theorem list3 {l : List UInt8} (h : l.length = 3) : ∃ x y z, l = [x, y, z] := by
 match l, h with
 | [x, y, z], _ => exact ⟨x, y, z, rfl⟩
set_option maxHeartbeats 4000000 in
set_option maxRecDepth 100000 in
theorem b64_group.calls (a0 r : ByteArray) (w : World) (h : b64_group.f a0 = some r) :
  Calls Tryz.prog 209 #[.string a0] w fun e w' => e = .returned (.string r) ∧ Below w.heap.size w w' := by
 unfold b64_group.f at h
 by_cases hs : 1 ≤ a0.size ∧ a0.size ≤ 3
 ·rw [if_pos hs] at h
  have HR := hid (Option.some.inj h)
  obtain ⟨hs0, hs1⟩ := hs
  clear h
  go_enter Tryz.func209, Tryz.ntmps209
  go_wp2
  go_loopw [3, 7] (fun v3 v7 wr => ∃ i : Nat, i ≤ 3 ∧ v7 = .int .i64 i ∧ v3 = .int .i64 (gN (Pl.bs a0) i) ∧ wr = w) (fun v3 v7 _ => 3 - (intOf v7).toNat)
  case atStart => exact ⟨0, Nat.zero_le _, rfl, rfl, rfl⟩
  case round =>
   obtain ⟨i, hi, rfl, rfl, rfl⟩ := hrel
   by_cases hlt : i < 3
   ·obtain ⟨g, hg⟩ : ∃ g, gN (Pl.bs a0) i = g := ⟨_, rfl⟩
    have hg2 : g < 65536 := by
     have h1 := gN_lt (Pl.bs a0) i
     have h2 : 256 ^ i ≤ 256 ^ 2 := Nat.pow_le_pow_right (by decide) (by omega)
     rw [hg] at h1
     omega
    have hstep : gN (Pl.bs a0) (i + 1) = g * 256 + ((Pl.bs a0).getD i 0).toNat := by rw [gN, hg]
    rw [hg]
    have e1 : IntKind.i64.wrap ((g : Int) * 256) = (g : Int) * 256 := i64_small _ (by omega) (by omega)
    by_cases hj : i < a0.size
    ·have hct := a0[i].toNat_lt
     have e2 : bits .or .i64 ((g : Int) * 256) (a0[i].toNat : Int) = (g : Int) * 256 + (a0[i].toNat : Int) := or_i64 8 _ _ (by omega) (by omega) (by omega) (by omega) (by omega) (by omega)
     have e3 : Hid (gN (Pl.bs a0) (i + 1) = g * 256 + a0[i].toNat) := by
      show _ = _
      rw [hstep]
      have : (Pl.bs a0).getD i 0 = a0[i] := by
       rw [List.getD_eq_getElem?_getD, List.getElem?_eq_getElem (by rw [Pl.bs_length]; exact hj)]
       rfl
      rw [this]
     clear hg hstep
     go_wp2
     go_roundw
     case rel => exact ⟨i + 1, by omega, by go_num, by rw [e3.out]; simp, by trivial⟩
     case measure => simp [intOf]; omega
    have e3 : Hid (gN (Pl.bs a0) (i + 1) = g * 256) := by
     show _ = _
     rw [hstep, List.getD_eq_getElem?_getD, List.getElem?_eq_none (by rw [Pl.bs_length]; omega)]
     rfl
    clear hg hstep
    go_wp2
    go_roundw
    case rel => exact ⟨i + 1, by omega, by go_num, by rw [e3.out]; simp, by trivial⟩
    case measure => simp [intOf]; omega
   obtain rfl : i = 3 := by omega
   obtain ⟨g, hg⟩ : ∃ g, gN (Pl.bs a0) 3 = g := ⟨_, rfl⟩
   have hg2 : g < 16777216 := by
    have h1 := gN_lt (Pl.bs a0) 3
    rw [hg] at h1
    exact h1
   rw [hg]
   have HGN := hid hg
   clear hg
   go_wp2
   go_loopw [23] (fun v23 W => ∃ i : Nat, i ≤ 4 ∧ v23 = .int .i64 i ∧ W = wr.alloc (.cells (arrG (Pl.b64C (g % 64)).toNat (Pl.b64C (g / 64 % 64)).toNat (Pl.b64C (g / 4096 % 64)).toNat (Pl.b64C (g / 262144 % 64)).toNat i) 220)) (fun v23 _ => 4 - (intOf v23).toNat)
   case atStart => exact ⟨0, Nat.zero_le _, rfl, rfl⟩
   case round =>
    obtain ⟨i, hi, rfl, rfl⟩ := hrel
    obtain ⟨c0, h0⟩ : ∃ c, (Pl.b64C (g % 64)).toNat = c := ⟨_, rfl⟩
    obtain ⟨c1, h1⟩ : ∃ c, (Pl.b64C (g / 64 % 64)).toNat = c := ⟨_, rfl⟩
    obtain ⟨c2, h2⟩ : ∃ c, (Pl.b64C (g / 4096 % 64)).toNat = c := ⟨_, rfl⟩
    obtain ⟨c3, h3⟩ : ∃ c, (Pl.b64C (g / 262144 % 64)).toNat = c := ⟨_, rfl⟩
    rw [h0, h1, h2, h3]
    have a0' : bits .and .i64 (g : Int) 63 = ((g % 64 : Nat) : Int) := by rw [show (63 : Int) = 2 ^ 6 - 1 by decide, and_i64 6 _ (by omega) (by omega) (by omega)]; omega
    have a1' : bits .and .i64 ((g : Int) / 64) 63 = ((g / 64 % 64 : Nat) : Int) := by rw [show (63 : Int) = 2 ^ 6 - 1 by decide, and_i64 6 _ (by omega) (by omega) (by omega)]; omega
    have a2' : bits .and .i64 ((g : Int) / 4096) 63 = ((g / 4096 % 64 : Nat) : Int) := by rw [show (63 : Int) = 2 ^ 6 - 1 by decide, and_i64 6 _ (by omega) (by omega) (by omega)]; omega
    have a3' : bits .and .i64 ((g : Int) / 262144) 63 = ((g / 262144 % 64 : Nat) : Int) := by rw [show (63 : Int) = 2 ^ 6 - 1 by decide, and_i64 6 _ (by omega) (by omega) (by omega)]; omega
    obtain ⟨m0, q0⟩ : ∃ m, g % 64 = m := ⟨_, rfl⟩
    obtain ⟨m1, q1⟩ : ∃ m, g / 64 % 64 = m := ⟨_, rfl⟩
    obtain ⟨m2, q2⟩ : ∃ m, g / 4096 % 64 = m := ⟨_, rfl⟩
    obtain ⟨m3, q3⟩ : ∃ m, g / 262144 % 64 = m := ⟨_, rfl⟩
    have l0 : m0 < 64 := by omega
    have l1 : m1 < 64 := by omega
    have l2 : m2 < 64 := by omega
    have l3 : m3 < 64 := by omega
    rw [q0] at a0' h0
    rw [q1] at a1' h1
    rw [q2] at a2' h2
    rw [q3] at a3' h3
    have x0 : ∀ h, (((letA)[m0]'h).toNat : Int) = (c0 : Int) := fun h => by rw [← h0]; exact congrArg (fun n : Nat => (n : Int)) (let_at ⟨m0, l0⟩ h)
    have x1 : ∀ h, (((letA)[m1]'h).toNat : Int) = (c1 : Int) := fun h => by rw [← h1]; exact congrArg (fun n : Nat => (n : Int)) (let_at ⟨m1, l1⟩ h)
    have x2 : ∀ h, (((letA)[m2]'h).toNat : Int) = (c2 : Int) := fun h => by rw [← h2]; exact congrArg (fun n : Nat => (n : Int)) (let_at ⟨m2, l2⟩ h)
    have x3 : ∀ h, (((letA)[m3]'h).toNat : Int) = (c3 : Int) := fun h => by rw [← h3]; exact congrArg (fun n : Nat => (n : Int)) (let_at ⟨m3, l3⟩ h)
    unfold letA at x0 x1 x2 x3
    have Q0 := hid q0
    have Q1 := hid q1
    have Q2 := hid q2
    have Q3 := hid q3
    clear q0 q1 q2 q3
    rcases (show i = 0 ∨ i = 1 ∨ i = 2 ∨ i = 3 ∨ i = 4 by omega) with rfl | rfl | rfl | rfl | rfl
    ·simp only [arrG]
     go_wp2
     go_roundw
     case rel => exact ⟨1, by omega, rfl, rfl⟩
     case measure => simp [intOf]
    ·simp only [arrG]
     go_wp2
     go_roundw
     case rel => exact ⟨2, by omega, rfl, rfl⟩
     case measure => simp [intOf]
    ·simp only [arrG]
     go_wp2
     go_roundw
     case rel => exact ⟨3, by omega, rfl, rfl⟩
     case measure => simp [intOf]
    ·simp only [arrG]
     go_wp2
     go_roundw
     case rel => exact ⟨4, by omega, rfl, rfl⟩
     case measure => simp [intOf]
    simp only [arrG]
    go_wp2
    have H0 := hid h0
    have H1 := hid h1
    have H2 := hid h2
    have H3 := hid h3
    clear h0 h1 h2 h3 x0 x1 x2 x3 a0' a1' a2' a3'
    have hB2 : Below wr.heap.size wr (wr.alloc (.cells #[.int .u8 c3, .int .u8 c2, .int .u8 c1, .int .u8 c0] 220)) := (Below.refl _ wr).alloc (Nat.le_refl _) _
    have hb2 := World.alloc_heap_new wr (.cells #[.int .u8 c3, .int .u8 c2, .int .u8 c1, .int .u8 c0] 220)
    have hlt2 : wr.heap.size < (wr.alloc (.cells #[.int .u8 c3, .int .u8 c2, .int .u8 c1, .int .u8 c0] 220)).heap.size := by simp
    generalize wr.alloc (.cells #[.int .u8 c3, .int .u8 c2, .int .u8 c1, .int .u8 c0] 220) = W2 at hB2 hb2 hlt2
    have w0 : IntKind.i64.wrap 0 = 0 := by decide
    have w1 : IntKind.i64.wrap 1 = 1 := by decide
    have w2 : IntKind.i64.wrap 2 = 2 := by decide
    have w3 : IntKind.i64.wrap 3 = 3 := by decide
    have w4 : IntKind.i64.wrap 4 = 4 := by decide
    have f0 : W2.cell? ⟨wr.heap.size, 0, none⟩ = some (.int .u8 c3) := by rw [Lib.cell_of_heap hb2]; rfl
    have f1 : W2.cell? ⟨wr.heap.size, 1, none⟩ = some (.int .u8 c2) := by rw [Lib.cell_of_heap hb2]; rfl
    have f2 : W2.cell? ⟨wr.heap.size, 2, none⟩ = some (.int .u8 c1) := by rw [Lib.cell_of_heap hb2]; rfl
    have f3 : W2.cell? ⟨wr.heap.size, 3, none⟩ = some (.int .u8 c0) := by rw [Lib.cell_of_heap hb2]; rfl
    rcases (show a0.size = 1 ∨ a0.size = 2 ∨ a0.size = 3 by omega) with hz | hz | hz
    ·obtain ⟨S, hS⟩ : ∃ S, strOfNums [(c3 : Int), (c2 : Int)] = S := ⟨_, rfl⟩
     have hSz : S.size = 2 := by rw [← hS, strOfNums_size]; rfl
     have hcv : ∀ W : World, W.cell? ⟨wr.heap.size, 0, none⟩ = some (.int .u8 (c3 : Int)) → W.cell? ⟨wr.heap.size, 1, none⟩ = some (.int .u8 (c2 : Int)) → (convert 83 9 (.slice (some ⟨wr.heap.size, 0, none⟩) 2 4)).run Tryz.prog W = .ok (.string S) W := fun W g0 g1 => by
      rw [← hS]
      refine run_convert_bytes_arg W 83 5 Tryz.underlying83 Tryz.underlying5 wr.heap.size 0 2 4 [(c3 : Int), (c2 : Int)] rfl (fun j hj => ?_) 9 Tryz.underlying9
      rw [Nat.zero_add]
      exact match j, hj with | 0, _ => g0 | 1, _ => g1
     have hrp : Hid (strings_Repeat.f ⟨#[61]⟩ 2 = some (Pl.str [61, 61])) := rfl
     have hfin : Hid (S ++ Pl.str [61, 61] = r) := by
      show _ = _
      obtain ⟨x, hx⟩ := list1 (l := Pl.bs a0) (by rw [Pl.bs_length, hz])
      have hg : g = x.toNat * 65536 := by
       rw [← HGN.out, hx]
       simp [gN]
       try omega
      rw [← HR.out, hx, ← hS, show Pl.b64P [x] = (Pl.grp x.toNat 0 0).take 2 ++ [61, 61] from rfl]
      have e0 := H0.out
      have e1 := H1.out
      have e2 := H2.out
      have e3 := H3.out
      rw [← Q0.out, hg] at e0
      rw [← Q1.out, hg] at e1
      rw [← Q2.out, hg] at e2
      rw [← Q3.out, hg] at e3
      rw [← e3, ← e2]
      apply Pl.bs_inj
      rw [Pl.bs_app, Pl.bs_str, Pl.bs_str]
      simp [Pl.bs, strOfNums, Pl.grp]
     have hz2 : (S ++ Pl.str [61, 61]).size = 4 := by rw [ByteArray.size_append, hSz, Pl.str_size]; rfl
     clear hS
     go_region_with (go_at_call 214; refine (strings_Repeat.calls ⟨#[61]⟩ 2 _ _ hrp.out).mono ?_; rintro e w' ⟨rfl, hb⟩; have d0 := (hb.cell (p := ⟨wr.heap.size, 0, none⟩) hlt2).trans f0; have d1 := (hb.cell (p := ⟨wr.heap.size, 1, none⟩) hlt2).trans f1)
     all_goals
      go_wp2
      go_ret
      refine ⟨?_, hB2.trans ((⟨rfl, rfl, rfl, Nat.le_refl _, fun _ _ => rfl⟩ : Below wr.heap.size W2 W2.drew).trans (hb.mono (Nat.le_of_lt hlt2)))⟩
      rw [← hfin.out]
      rfl
    ·obtain ⟨S, hS⟩ : ∃ S, strOfNums [(c3 : Int), (c2 : Int), (c1 : Int)] = S := ⟨_, rfl⟩
     have hSz : S.size = 3 := by rw [← hS, strOfNums_size]; rfl
     have hcv : ∀ W : World, W.cell? ⟨wr.heap.size, 0, none⟩ = some (.int .u8 (c3 : Int)) → W.cell? ⟨wr.heap.size, 1, none⟩ = some (.int .u8 (c2 : Int)) → W.cell? ⟨wr.heap.size, 2, none⟩ = some (.int .u8 (c1 : Int)) → (convert 83 9 (.slice (some ⟨wr.heap.size, 0, none⟩) 3 4)).run Tryz.prog W = .ok (.string S) W := fun W g0 g1 g2 => by
      rw [← hS]
      refine run_convert_bytes_arg W 83 5 Tryz.underlying83 Tryz.underlying5 wr.heap.size 0 3 4 [(c3 : Int), (c2 : Int), (c1 : Int)] rfl (fun j hj => ?_) 9 Tryz.underlying9
      rw [Nat.zero_add]
      exact match j, hj with | 0, _ => g0 | 1, _ => g1 | 2, _ => g2
     have hrp : Hid (strings_Repeat.f ⟨#[61]⟩ 1 = some (Pl.str [61])) := rfl
     have hfin : Hid (S ++ Pl.str [61] = r) := by
      show _ = _
      obtain ⟨x, y, hx⟩ := list2 (l := Pl.bs a0) (by rw [Pl.bs_length, hz])
      have hg : g = x.toNat * 65536 + y.toNat * 256 := by
       rw [← HGN.out, hx]
       simp [gN]
       try omega
      rw [← HR.out, hx, ← hS, show Pl.b64P [x, y] = (Pl.grp x.toNat y.toNat 0).take 3 ++ [61] from rfl]
      have e0 := H0.out
      have e1 := H1.out
      have e2 := H2.out
      have e3 := H3.out
      rw [← Q0.out, hg] at e0
      rw [← Q1.out, hg] at e1
      rw [← Q2.out, hg] at e2
      rw [← Q3.out, hg] at e3
      rw [← e3, ← e2, ← e1]
      apply Pl.bs_inj
      rw [Pl.bs_app, Pl.bs_str, Pl.bs_str]
      simp [Pl.bs, strOfNums, Pl.grp]
     have hz2 : (S ++ Pl.str [61]).size = 4 := by rw [ByteArray.size_append, hSz, Pl.str_size]; rfl
     clear hS
     go_region_with (go_at_call 214; refine (strings_Repeat.calls ⟨#[61]⟩ 1 _ _ hrp.out).mono ?_; rintro e w' ⟨rfl, hb⟩; have d0 := (hb.cell (p := ⟨wr.heap.size, 0, none⟩) hlt2).trans f0; have d1 := (hb.cell (p := ⟨wr.heap.size, 1, none⟩) hlt2).trans f1; have d2 := (hb.cell (p := ⟨wr.heap.size, 2, none⟩) hlt2).trans f2)
     all_goals
      go_wp2
      go_ret
      refine ⟨?_, hB2.trans ((⟨rfl, rfl, rfl, Nat.le_refl _, fun _ _ => rfl⟩ : Below wr.heap.size W2 W2.drew).trans (hb.mono (Nat.le_of_lt hlt2)))⟩
      rw [← hfin.out]
      rfl
    obtain ⟨S, hS⟩ : ∃ S, strOfNums [(c3 : Int), (c2 : Int), (c1 : Int), (c0 : Int)] = S := ⟨_, rfl⟩
    have hSz : S.size = 4 := by rw [← hS, strOfNums_size]; rfl
    have hcv : ∀ W : World, W.cell? ⟨wr.heap.size, 0, none⟩ = some (.int .u8 (c3 : Int)) → W.cell? ⟨wr.heap.size, 1, none⟩ = some (.int .u8 (c2 : Int)) → W.cell? ⟨wr.heap.size, 2, none⟩ = some (.int .u8 (c1 : Int)) → W.cell? ⟨wr.heap.size, 3, none⟩ = some (.int .u8 (c0 : Int)) → (convert 83 9 (.slice (some ⟨wr.heap.size, 0, none⟩) 4 4)).run Tryz.prog W = .ok (.string S) W := fun W g0 g1 g2 g3 => by
     rw [← hS]
     refine run_convert_bytes_arg W 83 5 Tryz.underlying83 Tryz.underlying5 wr.heap.size 0 4 4 [(c3 : Int), (c2 : Int), (c1 : Int), (c0 : Int)] rfl (fun j hj => ?_) 9 Tryz.underlying9
     rw [Nat.zero_add]
     exact match j, hj with | 0, _ => g0 | 1, _ => g1 | 2, _ => g2 | 3, _ => g3
    have hrp : Hid (strings_Repeat.f ⟨#[61]⟩ 0 = some (Pl.str [])) := rfl
    have hfin : Hid (S ++ Pl.str [] = r) := by
     show _ = _
     obtain ⟨x, y, z, hx⟩ := list3 (l := Pl.bs a0) (by rw [Pl.bs_length, hz])
     have hg : g = x.toNat * 65536 + y.toNat * 256 + z.toNat * 1 := by
      rw [← HGN.out, hx]
      simp [gN]
      try omega
     rw [← HR.out, hx, ← hS, show Pl.b64P [x, y, z] = (Pl.grp x.toNat y.toNat z.toNat).take 4 ++ [] from by simp [Pl.b64P, Pl.grp]]
     have e0 := H0.out
     have e1 := H1.out
     have e2 := H2.out
     have e3 := H3.out
     rw [← Q0.out, hg] at e0
     rw [← Q1.out, hg] at e1
     rw [← Q2.out, hg] at e2
     rw [← Q3.out, hg] at e3
     rw [← e3, ← e2, ← e1, ← e0]
     apply Pl.bs_inj
     rw [Pl.bs_app, Pl.bs_str, Pl.bs_str]
     simp [Pl.bs, strOfNums, Pl.grp]
    have hz2 : (S ++ Pl.str []).size = 4 := by rw [ByteArray.size_append, hSz, Pl.str_size]; rfl
    clear hS
    go_region_with (go_at_call 214; refine (strings_Repeat.calls ⟨#[61]⟩ 0 _ _ hrp.out).mono ?_; rintro e w' ⟨rfl, hb⟩; have d0 := (hb.cell (p := ⟨wr.heap.size, 0, none⟩) hlt2).trans f0; have d1 := (hb.cell (p := ⟨wr.heap.size, 1, none⟩) hlt2).trans f1; have d2 := (hb.cell (p := ⟨wr.heap.size, 2, none⟩) hlt2).trans f2; have d3 := (hb.cell (p := ⟨wr.heap.size, 3, none⟩) hlt2).trans f3)
    all_goals
     go_wp2
     go_ret
     refine ⟨?_, hB2.trans ((⟨rfl, rfl, rfl, Nat.le_refl _, fun _ _ => rfl⟩ : Below wr.heap.size W2 W2.drew).trans (hb.mono (Nat.le_of_lt hlt2)))⟩
     rw [← hfin.out]
     rfl
 rw [if_neg hs] at h; exact absurd h (by simp)
end Go.Proofs.YtcndmhpeolbepaaGreatDoor.Fn
set_option linter.unusedVariables false
set_option linter.unusedSimpArgs false
namespace Go.Proofs.YtcndmhpeolbepaaGreatDoor.Fn
open Go.RowKit Go.Proofs.YtcndmhpeolbepaaGreatDoorW.PrintWords

/-! A row of the call's own: cut off, and cleared behind. -/
section
variable {α : Type} {d : Kd α} {e base g n cap : Nat} {ok : Nat → Prop} {W : World} {xs : List α}
theorem reps_take {R : α → List Value → Prop} {size : Nat} {ps : List α} {cs : List Value} (h : Reps R size ps cs) (m : Nat) (hm : m ≤ ps.length) : Reps R size (ps.take m) (cs.take (m * size)) := by
 obtain ⟨h1, h2⟩ := h
 have hle : m * size ≤ ps.length * size := Nat.mul_le_mul_right _ hm
 refine ⟨by rw [List.length_take, List.length_take, h1]; rw [Nat.min_eq_left hle, Nat.min_eq_left hm], fun j p hp => ?_⟩
 have hj : j < m := by
  have := (List.getElem?_eq_some_iff.1 hp).1
  rw [List.length_take] at this
  omega
 rw [List.getElem?_take_of_lt hj] at hp
 have := h2 j p hp
 have hjm : j * size + size ≤ m * size := by rw [← Nat.succ_mul]; exact Nat.mul_le_mul_right _ hj
 rw [List.drop_take, List.take_take, Nat.min_eq_left (by omega)]
 exact this
end
structure Kept2 {α : Type} (p : α → Bool) (l : List α) (i j : Nat) (L : List α) : Prop where
 len : L.length = l.length
 lt : i < j
 le : j ≤ l.length
 low : L.take i = (l.take j).filter (fun x => !p x)
 high : L.drop j = l.drop j
theorem Kept2.at_ {α : Type} {p : α → Bool} {l L : List α} {i j : Nat} (h : Kept2 p l i j L) (hj : j < l.length) (hj2 : j < L.length) : L[j] = l[j] := by
 have := congrArg (·[0]?) h.high
 simp only [List.getElem?_drop, Nat.add_zero] at this
 rw [List.getElem?_eq_getElem hj, List.getElem?_eq_getElem hj2] at this
 exact Option.some.inj this
theorem drop_succ_of {α : Type} {l L : List α} {j : Nat} (h : L.drop j = l.drop j) : L.drop (j + 1) = l.drop (j + 1) := by
 rw [← List.drop_drop, ← List.drop_drop, h]
theorem Kept2.skip {α : Type} {p : α → Bool} {l L : List α} {i j : Nat} (h : Kept2 p l i j L) (hj : j < l.length) (hp : p l[j] = true) : Kept2 p l i (j + 1) L :=
 ⟨h.len, by have := h.lt; omega, hj, by rw [List.take_succ_eq_append_getElem hj, List.filter_append, h.low]; simp [hp], drop_succ_of h.high⟩
theorem Kept2.keep {α : Type} {p : α → Bool} {l L : List α} {i j : Nat} (h : Kept2 p l i j L) (hj : j < l.length) (hp : p l[j] = false) : Kept2 p l (i + 1) (j + 1) (L.set i l[j]) := by
 have hlt := h.lt
 have hlen := h.len
 have hi : i < (L.set i l[j]).length := by rw [List.length_set]; omega
 refine ⟨by rw [List.length_set]; exact hlen, by omega, hj, ?_, ?_⟩
 ·rw [List.take_succ_eq_append_getElem hi, List.take_succ_eq_append_getElem hj, List.filter_append, ← h.low, List.getElem_set_self, List.take_set_of_le (Nat.le_refl _)]
  simp [hp]
 rw [List.drop_set_of_lt (by omega)]
 exact drop_succ_of h.high
end Go.Proofs.YtcndmhpeolbepaaGreatDoor.Fn
namespace Go.Proofs.YtcndmhpeolbepaaGreatDoor.Fn
/-! Layer 15: a row of fields grows by another -/
end Go.Proofs.YtcndmhpeolbepaaGreatDoor.Fn
namespace Go.Proofs.YtcndmhpeolbepaaGreatDoor.Pl
open Go.Proofs.YtcndmhpeolbepaaGreatDoor.Fn
/-! Layer 12, the program's and the document's: which bytes are atomic; atoms. -/
def atomic (c : UInt8) : Bool := (lex_atomic.f (c.toNat : Int)).getD false
theorem atomic_is (c : UInt8) : lex_atomic.f (c.toNat : Int) = some (atomic c) := by
 have : ∀ x : Int, (lex_atomic.f x).isSome := by
  intro x
  unfold lex_atomic.f strings_IndexByte.f
  simp only [Option.bind_some]
  repeat' split
  all_goals rfl
 unfold atomic
 have h := this (c.toNat : Int)
 cases hx : lex_atomic.f (c.toNat : Int) with
 | none => rw [hx] at h; cases h
 | some b => rfl
def isAtom (s : ByteArray) : Bool := (bs s).all atomic && !(bs s).isEmpty
theorem lexIsAtom_l0 (s : ByteArray) (hs : s.size ≤ 140737488355328) : ∀ (rest : Bytes) (i k : Nat), (bs s).drop i = rest → i ≤ (bs s).length → rest.length + 1 ≤ k →
  lex_IsAtom.l0 k s (s.size : Int) (i : Int) = some (rest.all atomic && !(bs s).isEmpty)
 | [], i, k, hd, hi, hk => by
  obtain ⟨k, rfl⟩ : ∃ j, k = j + 1 := ⟨k - 1, by omega⟩
  have := drop_nil hd
  rw [lex_IsAtom.l0, if_neg (by rw [bs_length] at this; omega), toList_bs]
  cases bs s <;> simp
 | c :: rest, i, k, hd, hi, hk => by
  obtain ⟨k, rfl⟩ : ∃ j, k = j + 1 := ⟨k - 1, by omega⟩
  obtain ⟨h1, h2, h3, h4⟩ := drop_cons hd
  have h5 : i < s.size := by rw [bs_length] at h1; exact h1
  rw [lex_IsAtom.l0, if_pos (by omega), if_pos (by omega), if_pos (by omega), bt_drop hd, atomic_is, Option.bind_some]
  cases ha : atomic c with
  | true =>
   rw [if_pos rfl, wrap_succ i (by omega), lexIsAtom_l0 s hs rest (i + 1) k h3 (by omega) (by simp at hk; omega)]
   simp [ha]
  | false =>
   rw [if_neg (by simp)]
   simp [ha]
theorem lexIsAtom_is (s : ByteArray) (hs : s.size ≤ 140737488355328) (k : Nat) (hk : s.size + 1 ≤ k) : lex_IsAtom.f k s = some (isAtom s) := by
 have := lexIsAtom_l0 s hs (bs s) 0 k (by simp) (by omega) (by rw [bs_length]; omega)
 unfold lex_IsAtom.f isAtom
 exact this
/-! Layer 15: fields, the document's and the program's. -/
abbrev FQ := S66
abbrev FP := S54
def toF (x : FQ) : FP := ⟨x.f0, x.f1⟩
theorem rdQ (l : List FQ) (i : Nat) (h : i < l.length) : rd_T66 l (i : Int) = l[i] := by
 unfold rd_T66
 rw [Int.toNat_natCast, List.getD_eq_getElem?_getD, List.getElem?_eq_getElem h]; rfl
theorem rdP (l : List FP) (i : Nat) (h : i < l.length) : rd_T54 l (i : Int) = l[i] := by
 unfold rd_T54
 rw [Int.toNat_natCast, List.getD_eq_getElem?_getD, List.getElem?_eq_getElem h]; rfl
theorem rdS (L : List ByteArray) (i : Nat) (h : i < L.length) : rdOf ByteArray.empty L (i : Int) = L[i] := by
 unfold rdOf
 rw [Int.toNat_natCast, List.getD_eq_getElem?_getD, List.getElem?_eq_getElem h]; rfl
theorem wrapS (i : Nat) (h : i < 1000000000) : wrap64 ((i : Int) + 1) = ((i + 1 : Nat) : Int) := by
 rw [wrap_id (by omega) (by omega)]; omega
def okQ (f : FQ) : Bool := decide (f.f0.size ≤ 200) && decide (f.f1.size ≤ 3000)
def lightQ (l : List FQ) : Bool := (l.take 30).all okQ && decide (l.length ≤ 30)
theorem lightQ_rounds (l : List FQ) : ∀ (n i k : Nat), i + n = 31 → i ≤ 30 → 2 * n + 3 < k → i ≤ l.length → bulletinlaw15_Light.l0 k l (i : Int) = some (((l.take 30).drop i).all okQ && decide (l.length ≤ 30)) := by
 intro n
 induction n with
 | zero => intro i k h hi; omega
 | succ n ih =>
  intro i k h hi hk hil
  obtain ⟨k, rfl⟩ : ∃ q, k = q + 2 := ⟨k - 2, by omega⟩
  have hd : decide ((l.length : Int) ≤ 30) = decide (l.length ≤ 30) := by congr 1; exact propext ⟨fun h => by omega, fun h => by omega⟩
  rw [bulletinlaw15_Light.l0]
  by_cases h1 : i < l.length
  ·rw [if_pos (by omega)]
   by_cases h2 : i < 30
   ·rw [decide_eq_true (show ((i : Int) < 30) by omega), bulletinlaw15_Light.j1, if_pos rfl, if_pos (by omega), if_pos (by omega), rdQ l i h1]
    have hdr : (l.take 30).drop i = l[i] :: (l.take 30).drop (i + 1) := by
     rw [List.drop_eq_getElem_cons (by rw [List.length_take]; omega), List.getElem_take]
    rw [hdr, List.all_cons]
    have hok : okQ l[i] = (decide ((l[i]).f0.size ≤ 200) && decide ((l[i]).f1.size ≤ 3000)) := rfl
    by_cases a : (l[i]).f0.size > 200
    ·rw [if_pos (by omega), hok, decide_eq_false (by omega)]; rfl
    rw [if_neg (by omega)]
    by_cases b : (l[i]).f1.size > 3000
    ·rw [if_pos (by omega), hok, decide_eq_false (show ¬ (l[i]).f1.size ≤ 3000 by omega)]; simp
    rw [if_neg (by omega), wrapS i (by omega), ih (i + 1) k (by omega) (by omega) (by omega) (by omega), hok, decide_eq_true (show (l[i]).f0.size ≤ 200 by omega), decide_eq_true (show (l[i]).f1.size ≤ 3000 by omega)]
    rfl
   rw [decide_eq_false (show ¬ ((i : Int) < 30) by omega), bulletinlaw15_Light.j1, if_neg (by decide), hd, List.drop_of_length_le (by rw [List.length_take]; omega)]
   rfl
  rw [if_neg (by omega), bulletinlaw15_Light.j1, if_neg (by decide), hd, List.drop_of_length_le (by rw [List.length_take]; omega)]
  rfl
theorem lightQ_is (l : List FQ) (k : Nat) (hk : 100 < k) : bulletinlaw15_Light.f k l = some (lightQ l) := by
 unfold bulletinlaw15_Light.f lightQ
 have := lightQ_rounds l 31 0 k (by omega) (by omega) (by omega) (by omega)
 rw [List.drop_zero] at this
 exact this
theorem lightQ_some {l : List FQ} (h : lightQ l = true) : l.length ≤ 30 ∧ ∀ f ∈ l, f.f0.size ≤ 200 ∧ f.f1.size ≤ 3000 := by
 unfold lightQ at h
 rw [Bool.and_eq_true, decide_eq_true_iff] at h
 refine ⟨h.2, fun f hf => ?_⟩
 rw [List.take_of_length_le h.2] at h
 have := List.all_eq_true.1 h.1 f hf
 unfold okQ at this
 rw [Bool.and_eq_true, decide_eq_true_iff, decide_eq_true_iff] at this
 exact this
theorem toQ_rounds (l : List FQ) (hl : l.length ≤ 1000000) : ∀ (n i k : Nat), l.length = i + n → n < k → bulletinlaw15_To.l0 k l ((l.take i).map toF) (i : Int) = some (l.map toF) := by
 intro n
 induction n with
 | zero =>
  intro i k h hk
  obtain ⟨k, rfl⟩ : ∃ q, k = q + 1 := ⟨k - 1, by omega⟩
  rw [bulletinlaw15_To.l0, if_neg (by omega), List.take_of_length_le (by omega)]
 | succ n ih =>
  intro i k h hk
  obtain ⟨k, rfl⟩ : ∃ q, k = q + 1 := ⟨k - 1, by omega⟩
  rw [bulletinlaw15_To.l0, if_pos (by omega), if_pos (by omega), if_pos (by rw [List.length_map, List.length_take]; omega), rdQ l i (by omega), wrapS i (by omega)]
  have := ih (i + 1) k (by omega) (by omega)
  rw [List.take_succ_eq_append_getElem (by omega), List.map_append] at this
  exact this
theorem toQ_is (l : List FQ) (hl : l.length ≤ 1000000) (k : Nat) (hk : l.length < k) : bulletinlaw15_To.f k l = some (l.map toF) := by
 unfold bulletinlaw15_To.f
 exact toQ_rounds l hl l.length 0 k (by omega) (by omega)
def allL (l : List FP) (name : ByteArray) : List ByteArray := (l.filter (askN name)).map (·.f1)
/-! Layer 15: the fields of a name. -/
theorem drop_at {α : Type} {l : List α} {i : Nat} (h : i < l.length) : l.drop i = l[i] :: l.drop (i + 1) := List.drop_eq_getElem_cons h
def getA : List ByteArray → ByteArray × Bool
 | [] => ((⟨#[]⟩ : ByteArray), false)
 | v :: _ => (v, true)
theorem get_rounds (l : List FP) (name : ByteArray) (hl : l.length ≤ 1000000) (hn : name.size ≤ 1000000) (hz : ∀ x ∈ l, x.f0.size ≤ 1000000) : ∀ (n i k : Nat), l.length = i + n → n < k → head_Get.l0 k name l (l.length : Int) (i : Int) = some (getA (allL (l.drop i) name)) := by
 intro n
 induction n with
 | zero =>
  intro i k h hk
  obtain ⟨k, rfl⟩ : ∃ q, k = q + 1 := ⟨k - 1, by omega⟩
  rw [head_Get.l0, if_neg (by omega), List.drop_of_length_le (by omega)]
  rfl
 | succ n ih =>
  intro i k h hk
  obtain ⟨k, rfl⟩ : ∃ q, k = q + 1 := ⟨k - 1, by omega⟩
  have hi : i < l.length := by omega
  rw [head_Get.l0, if_pos (by omega), if_pos (by omega), if_pos (by omega), rdP l i hi, headsame_is _ _ (by have := hz _ (List.getElem_mem hi); omega) (by omega), Option.bind_some, wrapS i (by omega), drop_at hi]
  have ha : askN name l[i] = sameN l[i].f0 name := rfl
  unfold allL at ih ⊢
  cases hs : sameN l[i].f0 name with
  | true => rw [if_pos rfl, List.filter_cons_of_pos (by rw [ha, hs])]; rfl
  | false => rw [if_neg (by decide), List.filter_cons_of_neg (by rw [ha, hs]; decide)]; exact ih (i + 1) k (by omega) (by omega)
theorem get_is (l : List FP) (name : ByteArray) (hl : l.length ≤ 1000000) (hn : name.size ≤ 1000000) (hz : ∀ x ∈ l, x.f0.size ≤ 1000000) (k : Nat) (hk : l.length < k) : head_Get.f k l name = some (getA (allL l name)) := by
 unfold head_Get.f
 have := get_rounds l name hl hn hz l.length 0 k (by omega) (by omega)
 rwa [List.drop_zero] at this
/-! Layer 15: fields put and taken: the laws' words over lists -/
theorem allL_length (l : List FP) (name : ByteArray) : (allL l name).length ≤ l.length := by
 unfold allL; rw [List.length_map]; exact List.length_filter_le _ _
theorem all_rounds (l : List FP) (name : ByteArray) (hl : l.length ≤ 1000000) (hn : name.size ≤ 1000000) (hz : ∀ x ∈ l, x.f0.size ≤ 1000000) : ∀ (n i k : Nat), l.length = i + n → n < k → head_All.l0 k name (allL (l.take i) name) l (l.length : Int) (i : Int) = some (allL l name) := by
 intro n
 induction n with
 | zero =>
  intro i k h hk
  obtain ⟨k, rfl⟩ : ∃ q, k = q + 1 := ⟨k - 1, by omega⟩
  rw [head_All.l0, if_neg (by omega), List.take_of_length_le (by omega)]
 | succ n ih =>
  intro i k h hk
  obtain ⟨k, rfl⟩ : ∃ q, k = q + 1 := ⟨k - 1, by omega⟩
  have hi : i < l.length := by omega
  have hle := allL_length (l.take i) name
  rw [List.length_take] at hle
  rw [head_All.l0, if_pos (by omega), if_pos (by omega), if_pos (by omega), rdP l i hi, headsame_is _ _ (by have := hz _ (List.getElem_mem hi); omega) (by omega), Option.bind_some, wrapS i (by omega)]
  have hn := ih (i + 1) k (by omega) (by omega)
  rw [List.take_succ_eq_append_getElem hi] at hn
  unfold allL at hn ⊢
  rw [List.filter_append, List.map_append] at hn
  have ha : askN name l[i] = sameN l[i].f0 name := rfl
  cases hs : sameN l[i].f0 name with
  | true =>
   rw [if_pos rfl, if_pos (by unfold allL at hle; omega)]
   rw [List.filter_cons_of_pos (by rw [ha, hs])] at hn
   exact hn
  | false =>
   rw [if_neg (by decide)]
   rw [List.filter_cons_of_neg (by rw [ha, hs]; decide)] at hn
   simpa using hn
theorem all_is (l : List FP) (name : ByteArray) (hl : l.length ≤ 1000000) (hn : name.size ≤ 1000000) (hz : ∀ x ∈ l, x.f0.size ≤ 1000000) (k : Nat) (hk : l.length < k) : head_All.f k l name = some (allL l name) := by
 unfold head_All.f
 exact all_rounds l name hl hn hz l.length 0 k (by omega) (by omega)
theorem light16 (l : List FQ) (b : ByteArray) (k : Nat) (hk : 100 < k) : bulletinlaw16_Light.f k l b = some (lightQ l && decide ((b.size : Int) ≤ 3000)) := by
 unfold bulletinlaw16_Light.f
 rw [lightQ_is l k hk, Option.bind_some]
 cases lightQ l <;> rfl
theorem to16 (l : List FQ) (b : ByteArray) (hl : l.length ≤ 1000000) (k : Nat) (hk : l.length < k) : bulletinlaw16_To.f k l b = some (l.map toF, b) := by
 unfold bulletinlaw16_To.f
 rw [toQ_is l hl k hk, Option.bind_some]
end Go.Proofs.YtcndmhpeolbepaaGreatDoor.Pl
set_option linter.unusedVariables false
set_option linter.unusedSimpArgs false
namespace Go.Proofs.YtcndmhpeolbepaaGreatDoor.Pl
open Go.RowKit Go.Proofs.YtcndmhpeolbepaaGreatDoorW.PrintWords
theorem b64P_step (l : Bytes) (h : l ≠ []) : b64P l = b64P (l.take 3) ++ b64P (l.drop 3) := by
 match l, h with
 | [a], _ => simp [b64P]
 | [a, b], _ => simp [b64P]
 | a :: b :: c :: r, _ => simp [b64P]
theorem b64P_three (l : Bytes) (h : l ≠ []) (h3 : l.length ≤ 3) : (b64P l).length = 4 := by
 match l, h with
 | [a], _ => rfl
 | [a, b], _ => rfl
 | [a, b, c], _ => rfl
 | a :: b :: c :: d :: r, _ => simp at h3
end Go.Proofs.YtcndmhpeolbepaaGreatDoor.Pl
namespace Go.Proofs.YtcndmhpeolbepaaGreatDoor.Fn
open Go.RowKit Go.Proofs.YtcndmhpeolbepaaGreatDoorW.PrintWords

def b64_Plain.f (a0 : ByteArray) : Option ByteArray := if a0.size ≤ 1000000000 then some (Pl.str (Pl.b64P (Pl.bs a0))) else none
set_option maxHeartbeats 4000000 in
set_option maxRecDepth 100000 in
theorem b64_Plain.calls (a0 r : ByteArray) (w : World) (h : b64_Plain.f a0 = some r) :
  Calls Tryz.prog 191 #[.string a0] w fun e w' => e = .returned (.string r) ∧ Below w.heap.size w w' := by
 unfold b64_Plain.f at h
 by_cases hs : a0.size ≤ 1000000000
 ·rw [if_pos hs] at h
  have HR := hid (Option.some.inj h)
  clear h
  go_enter Tryz.func191, Tryz.ntmps191
  go_wp2
  go_loopw [0] (fun v0 wr => ∃ (s : ByteArray) (acc : List UInt8), v0 = .string s ∧ isBd w.heap.size w.heap.size (Lib.byteCells acc) wr ∧ Below w.heap.size w wr ∧ Hid (Pl.str (acc ++ Pl.b64P (Pl.bs s)) = r) ∧ acc.length + 4 * s.size ≤ 4 * a0.size) (fun v0 wr => strLen v0)
  case atStart => exact ⟨a0, [], rfl, Lib.IsBuilderF.of (Lib.fresh_isBuilder _ _ w), (Below.refl _ w).alloc (Nat.le_refl _) _, HR.out, by simp⟩
  case round =>
   obtain ⟨s, acc, rfl, hI, hbw, hacc, hal⟩ := hrel
   have hbs := hbw.size
   have hzs := Pl.bs_length s
   by_cases he : s.toList = []
   ·obtain ⟨e0, e1⟩ := toList_ne he
    have hend : Hid (Pl.str acc = r) := by
     show _ = _
     rw [← hacc.out, show Pl.bs s = [] from by rw [← Pl.toList_bs]; exact he, Pl.b64P, List.append_nil]
    go_wp2_with (go_at_call 49; refine (Tryz.Builder_String_any_k w.heap.size w.heap.size acc _ hI hbs).mono ?_; rintro e W1 ⟨rfl, _, b1, _⟩)
    go_ret
    refine ⟨?_, hbw.trans b1⟩
    rw [← hend.out]
    rfl
   obtain ⟨e0, e1⟩ := toList_ne' he
   have hne : Pl.bs s ≠ [] := by rw [← Pl.toList_bs]; exact he
   have hpos : 1 ≤ s.size := by
    rw [← hzs]
    exact List.length_pos_iff.2 hne
   obtain ⟨n, hn⟩ : ∃ n, min 3 s.size = n := ⟨_, rfl⟩
   have hn1 : 1 ≤ n ∧ n ≤ 3 ∧ n ≤ s.size := by omega
   have hcut : (Pl.bs s).take n = (Pl.bs s).take 3 ∧ (Pl.bs s).drop n = (Pl.bs s).drop 3 := by
    rcases Nat.lt_or_ge s.size 3 with h3 | h3
    ·have e : n = s.size := by omega
     rw [e, List.take_of_length_le (by omega), List.take_of_length_le (by omega), List.drop_of_length_le (by omega), List.drop_of_length_le (by omega)]
     exact ⟨rfl, rfl⟩
    have e : n = 3 := by omega
    rw [e]
    exact ⟨rfl, rfl⟩
   have hx1 : Pl.bs (s.extract 0 n) = (Pl.bs s).take n := by rw [Pl.bs_extract, List.drop_zero]
   have hx2 : Pl.bs (s.extract n s.size) = (Pl.bs s).drop n := by rw [Pl.bs_extract, List.take_of_length_le (by omega)]
   have hx3 : (s.extract 0 n).size = n := by rw [← Pl.bs_length, hx1, List.length_take]; omega
   have hx4 : (s.extract n s.size).size = s.size - n := by rw [← Pl.bs_length, hx2, List.length_drop]; omega
   have hgl : (Pl.b64P ((Pl.bs s).take n)).length = 4 := Pl.b64P_three _ (by intro e; have := congrArg List.length e; rw [List.length_take, List.length_nil] at this; omega) (by rw [List.length_take]; omega)
   obtain ⟨Gr, hGr⟩ : ∃ G, Pl.str (Pl.b64P ((Pl.bs s).take n)) = G := ⟨_, rfl⟩
   have hGz : Gr.size = 4 := by rw [← hGr, Pl.str_size]; exact hgl
   have hgr : Hid (b64_group.f (s.extract 0 n) = some Gr) := by
    show _ = _
    unfold b64_group.f
    rw [if_pos (by omega), hx1, hGr]
   have hnew : Hid (Pl.str ((acc ++ Pl.bs Gr) ++ Pl.b64P (Pl.bs (s.extract n s.size))) = r) := by
    show _ = _
    rw [← hacc.out, Pl.b64P_step (Pl.bs s) hne, ← hGr, Pl.bs_str, hx2, hcut.1, hcut.2, List.append_assoc]
   have hmin : min (3 : Int) (s.size : Int) = (n : Int) := by omega
   have hn2 : ((n : Int) ≤ (s.size : Int)) = True := eq_true (by omega)
   have hn3 : ((0 : Int) ≤ (n : Int)) = True := eq_true (by omega)
   clear hcut hacc hGr hgl he hne hx1 hx2
   go_wp2_with (first
    | (go_at_call 209; refine (b64_group.calls (s.extract 0 n) Gr _ hgr.out).mono ?_; rintro e W2 ⟨rfl, b2⟩; have hI2 := bd_below hI b2)
    | (go_at_call 96; refine (bd_string w.heap.size w.heap.size (Lib.byteCells acc) Gr _ hI2 (by rw [Lib.byteCells_length]; omega) (by have := b2.size; omega)).mono ?_; rintro e W3 ⟨rfl, h3, b3, k3⟩))
   go_roundw
   case rel =>
    refine ⟨s.extract n s.size, acc ++ Pl.bs Gr, rfl, ?_, hbw.trans ((b2.mono hbs).trans b3), hnew, ?_⟩
    ·rw [Lib.byteCells_append]; exact h3.is
    rw [List.length_append, Pl.bs_length, hx4]; omega
   case measure => simp only [strLen, hx4]; omega
 rw [if_neg hs] at h; exact absurd h (by simp)
end Go.Proofs.YtcndmhpeolbepaaGreatDoor.Fn
namespace Go.Proofs.YtcndmhpeolbepaaGreatDoor.Fn
attribute [local go_sem] max2_int min2_int max_two min_two max_three min_three max_four min_four
def b64_Decode.l0 : Nat → ByteArray → List Int → Int → Int → Int → Int → Option (ByteArray × Int)
 | 0, _, _, _, _, _, _ => none
 | k + 1, x0, x4, x5, x6, x13, x14 => if x14 < x13 then (if 0 ≤ x14 then (if x14 < (x0.size : Int) then ((strings_IndexByte.f (⟨#[65, 66, 67, 68, 69, 70, 71, 72, 73, 74, 75, 76, 77, 78, 79, 80, 81, 82, 83, 84, 85, 86, 87, 88, 89, 90, 97, 98, 99, 100, 101, 102, 103, 104, 105, 106, 107, 108, 109, 110, 111, 112, 113, 114, 115, 116, 117, 118, 119, 120, 121, 122, 48, 49, 50, 51, 52, 53, 54, 55, 56, 57, 43, 47]⟩ : ByteArray) (bt x0 x14)).bind fun t169 => (if t169 < 0 then (some ((⟨#[]⟩ : ByteArray), 3)) else (if (wrap64 (x6 + 6)) ≥ 8 then (if 0 ≤ (wrap64 ((wrap64 (x6 + 6)) - 8)) then (if x4.length < 140737488355328 then (b64_Decode.l0 k x0 (x4 ++ [(shr .i64 (Go.bits .or .i64 (wrap64 (x5 * 64)) t169) (wrap64 ((wrap64 (x6 + 6)) - 8))) % 256]) (Go.bits .and .i64 (Go.bits .or .i64 (wrap64 (x5 * 64)) t169) (wrap64 ((shl .i64 1 (wrap64 ((wrap64 (x6 + 6)) - 8))) - 1))) (wrap64 ((wrap64 (x6 + 6)) - 8)) x13 (wrap64 (x14 + 1))) else (none)) else (none)) else (b64_Decode.l0 k x0 x4 (Go.bits .or .i64 (wrap64 (x5 * 64)) t169) (wrap64 (x6 + 6)) x13 (wrap64 (x14 + 1)))))) else (none)) else (none)) else ((b64_Plain.f (strOfNums x4)).bind fun t168 => (if t168.toList = x0.toList then (some (strOfNums x4, 0)) else (some ((⟨#[]⟩ : ByteArray), 3))))
def b64_Decode.f (k : Nat) (a0 : ByteArray) : Option (ByteArray × Int) := (b64_bare.f k a0).bind fun t166 => ((strings_TrimRight.f t166 (⟨#[61]⟩ : ByteArray)).bind fun t167 => (b64_Decode.l0 k t166 ([] : List Int) 0 0 (t167.size : Int) 0))
set_option maxRecDepth 100000 in
theorem b64_Decode.calls (k : Nat) (a0 : ByteArray) (r1 : ByteArray) (r2 : Int) (w : World) (h : b64_Decode.f k a0 = some (r1, r2)) :
  Calls Tryz.prog 162 #[.string a0] w fun e w' => e = .returned (.tuple #[.string r1, .int .i64 r2]) ∧ Below w.heap.size w w' := by
 have HB := Aside0.mk (Below.refl w.heap.size w); have H : ((b64_bare.f k a0).bind fun t166 => ((strings_TrimRight.f t166 (⟨#[61]⟩ : ByteArray)).bind fun t167 => (b64_Decode.l0 k t166 ([] : List Int) 0 0 (t167.size : Int) 0))) = some (r1, r2) := h; clear h; replace H := Option.bind_eq_some_iff.mp H; obtain ⟨t166, A20, H⟩ := H; have A2 := Aside0.mk A20; clear A20; replace H := Option.bind_eq_some_iff.mp H; obtain ⟨t167, A30, H⟩ := H; have A3 := Aside0.mk A30; clear A30; have H' := Aside0.mk H; clear H
 go_enter Tryz.func162, Tryz.ntmps162
 go_wp2_with (first | ((with_reducible refine gate_callee (f := 190) rfl ?_); refine goesL_ (some 10) rfl rfl Tryz.func190 (by kernel_rfl) rfl #[.string a0] rfl am ?_; (with_reducible refine (b64_bare.calls k a0 t166 _ A2.out).mono ?_); rintro e w4 ⟨rfl, hb⟩; refine ⟨_, rfl, ?_⟩; have n0_ := Aside0.mk (below_step bw hb); clear HB; have HB := n0_; clear n0_; (try clear hb); (try clear hb2); (try clear hk); (try clear hi)) | ((with_reducible refine gate_callee (f := 60) rfl ?_); refine goesL_ (some 12) rfl rfl Tryz.func60 (by kernel_rfl) rfl #[.string t166, .string (⟨#[61]⟩ : ByteArray)] rfl am ?_; (with_reducible refine (strings_TrimRight.calls t166 (⟨#[61]⟩ : ByteArray) t167 _ A3.out).mono ?_); rintro e w5 ⟨rfl, hb⟩; refine ⟨_, rfl, ?_⟩; have n0_ := Aside0.mk (below_step bw hb); clear HB; have HB := n0_; clear n0_; (try clear hb); (try clear hb2); (try clear hk); (try clear hi)))
 go_loopg [4, 5, 6, 14] k (fun kq v4 v5 v6 v14 w' => ∃ (x4_1 : List Int) (x5_1 : Int) (x6_1 : Int) (x14_1 : Int), v5 = .int .i64 x5_1 ∧ v6 = .int .i64 x6_1 ∧ v14 = .int .i64 x14_1 ∧ Aside0 (b64_Decode.l0 kq t166 x4_1 x5_1 x6_1 (t167.size : Int) x14_1 = some (r1, r2)) ∧ Aside0 (kq ≤ k) ∧ Aside0 (Kd.R (Kd.int .u8) 5 w' w.heap.size (fun _ => True) v4 x4_1) ∧ Aside0 (Below w.heap.size w w'))
 case atStart => exact ⟨(([] : List Int)), (0), (0), (0), cl, cl, cl, H', ⟨Nat.le_refl _⟩, ⟨by first | exact Kd.R_nil _ _ _ _ _ | exact Kd.N_nil _ _ _ _ _ | exact Kd.V_nil _ _ _ _ _ | exact Kd.Q_nil _ _ _ _ _ | exact Kd.S_nil _ _ _ _ _⟩, ⟨bw⟩⟩
 case round =>
  clear H'
  try clear c1
  try clear p2
  obtain ⟨x4_1, x5_1, x6_1, x14_1, rfl, rfl, rfl, HA, HK1, HO_4, HB⟩ := hrel; cases gk with
  | zero => exact absurd HA.out (by simp [b64_Decode.l0])
  | succ k1 =>
   have H := HA.out; clear HA; simp only [b64_Decode.l0] at H
   by_cases c6 : x14_1 < (t167.size : Int)
   ·rw [if_pos c6] at H; have c6b0 := decide_eq_true c6; clear c6
    by_cases c7 : 0 ≤ x14_1
    ·rw [if_pos c7] at H; have c7b0 := decide_eq_true c7; clear c7
     by_cases c8 : x14_1 < (t166.size : Int)
     ·rw [if_pos c8] at H; have c8b0 := decide_eq_true c8; clear c8; replace H := Option.bind_eq_some_iff.mp H; obtain ⟨t169, A100, H⟩ := H; have A10 := Aside0.mk A100; clear A100
      by_cases c11 : t169 < 0
      ·rw [if_pos c11] at H; have c11b0 := decide_eq_true c11; clear c11; simp only [Option.some.injEq, Prod.mk.injEq] at H; obtain ⟨rfl, rfl⟩ := H; have p9 : 0 ≤ (x14_1 : Int) := od; have q9 : x14_1 < (t166.size : Int) := od; have hx9 := bt_at t166 x14_1; replace p9 := eq_true p9; replace q9 := eq_true q9
       go_wp2_with (first | ((with_reducible refine gate_callee (f := 172) rfl ?_); refine goesL_ (some 20) rfl rfl Tryz.func172 (by kernel_rfl) rfl #[.string (⟨#[65, 66, 67, 68, 69, 70, 71, 72, 73, 74, 75, 76, 77, 78, 79, 80, 81, 82, 83, 84, 85, 86, 87, 88, 89, 90, 97, 98, 99, 100, 101, 102, 103, 104, 105, 106, 107, 108, 109, 110, 111, 112, 113, 114, 115, 116, 117, 118, 119, 120, 121, 122, 48, 49, 50, 51, 52, 53, 54, 55, 56, 57, 43, 47]⟩ : ByteArray), .int .u8 (bt t166 x14_1)] rfl am ?_; (with_reducible refine (strings_IndexByte.calls (⟨#[65, 66, 67, 68, 69, 70, 71, 72, 73, 74, 75, 76, 77, 78, 79, 80, 81, 82, 83, 84, 85, 86, 87, 88, 89, 90, 97, 98, 99, 100, 101, 102, 103, 104, 105, 106, 107, 108, 109, 110, 111, 112, 113, 114, 115, 116, 117, 118, 119, 120, 121, 122, 48, 49, 50, 51, 52, 53, 54, 55, 56, 57, 43, 47]⟩ : ByteArray) (bt t166 x14_1) t169 _ A10.out).mono ?_); rintro e w' ⟨rfl, ⟨nd, rfl⟩⟩; refine ⟨_, rfl, ?_⟩))
       go_ret2
       exact ⟨ew, bw⟩
      rw [if_neg c11] at H; have c11b0 := decide_eq_false c11; clear c11
      by_cases c12 : (wrap64 (x6_1 + 6)) ≥ 8
      ·rw [if_pos c12] at H; have c12b0 : decide (8 ≤ (wrap64 (x6_1 + 6))) = true := decide_eq_true c12; clear c12; obtain ⟨ji13, hji13⟩ : ∃ j_ : Int, (wrap64 ((wrap64 (x6_1 + 6)) - 8)) = j_ := ⟨_, rfl⟩
       replace H : (if 0 ≤ (ji13) then (if x4_1.length < 140737488355328 then (b64_Decode.l0 k1 t166 (x4_1 ++ [(shr .i64 (Go.bits .or .i64 (wrap64 (x5_1 * 64)) t169) (ji13)) % 256]) (Go.bits .and .i64 (Go.bits .or .i64 (wrap64 (x5_1 * 64)) t169) (wrap64 ((shl .i64 1 (ji13)) - 1))) ji13 (t167.size : Int) (wrap64 (x14_1 + 1))) else (none)) else (none)) = some (r1, r2) := by first | (rw [hji13] at H; exact H) | (simp only [hji13] at H ⊢; exact H)
       (try rw [hji13] at A10)
       have hji13w : (IntKind.i64.wrap ((wrap64 (x6_1 + 6)) - 8)) = ji13 := (i64_w _).trans hji13
       by_cases c14 : 0 ≤ (ji13)
       ·rw [if_pos c14] at H; have c14b0 := eq_true c14; have c14b1 := decide_eq_true c14; clear c14; obtain ⟨ji15, hji15⟩ : ∃ j_ : Int, (shr .i64 (Go.bits .or .i64 (wrap64 (x5_1 * 64)) t169) (ji13)) = j_ := ⟨_, rfl⟩
        replace H : (if x4_1.length < 140737488355328 then (b64_Decode.l0 k1 t166 (x4_1 ++ [(ji15) % 256]) (Go.bits .and .i64 (Go.bits .or .i64 (wrap64 (x5_1 * 64)) t169) (wrap64 ((shl .i64 1 (ji13)) - 1))) ji13 (t167.size : Int) (wrap64 (x14_1 + 1))) else (none)) = some (r1, r2) := by first | (rw [hji15] at H; exact H) | (simp only [hji15] at H ⊢; exact H)
        (try rw [hji15] at A10)
        have hji15_ : ((Go.bits .or .i64 (wrap64 (x5_1 * 64)) t169) / 2 ^ min (ji13).toNat 64) = ji15 := hji15; have hji15z : (ji13) ≤ 64 → ((Go.bits .or .i64 (wrap64 (x5_1 * 64)) t169) / 2 ^ (ji13).toNat) = ji15 := shr_small hji15
        by_cases c16 : x4_1.length < 140737488355328
        ·rw [if_pos c16] at H; have LMc16 := Aside0.mk c16; clear c16; obtain ⟨y170, hy170⟩ : ∃ y_ : List Int, y_ = (x4_1 ++ [(ji15) % 256]) := ⟨_, rfl⟩
         replace H : (b64_Decode.l0 k1 t166 y170 (Go.bits .and .i64 (Go.bits .or .i64 (wrap64 (x5_1 * 64)) t169) (wrap64 ((shl .i64 1 (ji13)) - 1))) ji13 (t167.size : Int) (wrap64 (x14_1 + 1))) = some (r1, r2) := by first | (rw [hy170]; with_reducible exact H) | (have H2_ := (Option.bind_some _ _).symm.trans H; rw [hy170]; with_reducible exact H2_) | (have H2_ := (Option.bind_some _ _).symm.trans H; with_reducible exact H2_) | with_reducible exact H | (rw [hy170]; exact H) | exact H
         have Ny170 := Aside0.mk hy170; clear hy170; have c17b0 := eq_true (od : 0 ≤ (ji13)); obtain ⟨ji18, hji18⟩ : ∃ j_ : Int, (shl .i64 1 (ji13)) = j_ := ⟨_, rfl⟩
         replace H : (b64_Decode.l0 k1 t166 y170 (Go.bits .and .i64 (Go.bits .or .i64 (wrap64 (x5_1 * 64)) t169) (wrap64 ((ji18) - 1))) ji13 (t167.size : Int) (wrap64 (x14_1 + 1))) = some (r1, r2) := by first | (rw [hji18] at H; exact H) | (simp only [hji18] at H ⊢; exact H)
         (try rw [hji18] at A10)
         have hji18_ : (IntKind.i64.wrap (1 * 2 ^ min (ji13).toNat 64)) = ji18 := hji18; have hji18z : (ji13) ≤ 64 → (IntKind.i64.wrap (1 * 2 ^ (ji13).toNat)) = ji18 := shl_small hji18; have hji18u : (IntKind.i64.wrap (2 ^ min (ji13).toNat 64)) = ji18 := by have h_ := hji18_; rw [Int.one_mul] at h_; exact h_
         have hji18v : (ji13) ≤ 64 → (IntKind.i64.wrap (2 ^ (ji13).toNat)) = ji18 := fun hle_ => by have h_ := hji18z hle_; rw [Int.one_mul] at h_; exact h_
         have hji18y : (wrap64 (1 * 2 ^ min (ji13).toNat 64)) = ji18 := (i64_w _).symm.trans hji18_; have hji18x : (ji13) ≤ 64 → (wrap64 (1 * 2 ^ (ji13).toNat)) = ji18 := fun h_ => (i64_w _).symm.trans (hji18z h_)
         have H' := Aside0.mk H; clear H; have p9 : 0 ≤ (x14_1 : Int) := od; have q9 : x14_1 < (t166.size : Int) := od; have hx9 := bt_at t166 x14_1; replace p9 := eq_true p9; replace q9 := eq_true q9
         go_wp2_with (first | ((with_reducible refine gate_callee (f := 172) rfl ?_); refine goesL_ (some 20) rfl rfl Tryz.func172 (by kernel_rfl) rfl #[.string (⟨#[65, 66, 67, 68, 69, 70, 71, 72, 73, 74, 75, 76, 77, 78, 79, 80, 81, 82, 83, 84, 85, 86, 87, 88, 89, 90, 97, 98, 99, 100, 101, 102, 103, 104, 105, 106, 107, 108, 109, 110, 111, 112, 113, 114, 115, 116, 117, 118, 119, 120, 121, 122, 48, 49, 50, 51, 52, 53, 54, 55, 56, 57, 43, 47]⟩ : ByteArray), .int .u8 (bt t166 x14_1)] rfl am ?_; (with_reducible refine (strings_IndexByte.calls (⟨#[65, 66, 67, 68, 69, 70, 71, 72, 73, 74, 75, 76, 77, 78, 79, 80, 81, 82, 83, 84, 85, 86, 87, 88, 89, 90, 97, 98, 99, 100, 101, 102, 103, 104, 105, 106, 107, 108, 109, 110, 111, 112, 113, 114, 115, 116, 117, 118, 119, 120, 121, 122, 48, 49, 50, 51, 52, 53, 54, 55, 56, 57, 43, 47]⟩ : ByteArray) (bt t166 x14_1) t169 _ A10.out).mono ?_); rintro e w' ⟨rfl, ⟨nd, rfl⟩⟩; refine ⟨_, rfl, ?_⟩) | ((with_reducible refine gate_builtin (b := .append) (xs := #[.tmp 33, .tmp 38]) rfl ?_); at_builtin; refine Kd.R_append (Kd.int .u8) (w0 := w) w.heap.size rfl (.tmp 33) (.tmp 38) 83 5 (.int .u8 0) 1 rfl Tryz.underlying83 info5 rfl (by decide) (by omega) u4 x4_1 ((ji15) % 256) [.int .u8 ((ji15) % 256)] (fun _ => True) (fun _ => False) rfl rfl ?aP (fun _ hk => hk.elim) ?aF ?aO ?aB ?aS ?aL ?_; (case aP => exact rfl); (case aB => exact bw); (case aF => exact (fun _ _ => trivial)); (case aO => exact (ra HO_4.out)); (case aS => exact (below_size bw)); (case aL => have := LMc16.out; omega); intro v171 w19 ho hb hg hat; rw [← Ny170.out] at ho; have n0_ := Aside0.mk (hb); have n1_ := Aside0.mk (ho); clear HB; clear HO_4; have HB := n0_; have HO172 := n1_; clear n0_ n1_; clear ho hb hg hat))
         go_roundg k1
         case measure => have := HK1.out; omega
         case rel => exact ⟨(y170), (Go.bits .and .i64 (Go.bits .or .i64 (wrap64 (x5_1 * 64)) t169) (wrap64 ((ji18) - 1))), (ji13), (wrap64 (x14_1 + 1)), (by first | rfl | (simp; done) | (simp only [← hji18] <;> (first | rfl | simp)) | (simp [*]; done) | (simp [nil_ne]; done) | (simp [u8_w, i64w_]; done) | (simp [size_lit]; done) | (simp; unfold wrap64; omega)), (by first | rfl | (simp; done) | (simp only [← hji13] <;> (first | rfl | simp)) | (simp [*]; done) | (simp [nil_ne]; done) | (simp [u8_w, i64w_]; done) | (simp [size_lit]; done) | (simp; unfold wrap64; omega)), cl, H', ⟨by have := HK1.out; omega⟩, ⟨ra HO172.out⟩, ⟨bw⟩⟩
        rw [if_neg c16] at H; exact absurd H (by simp)
       rw [if_neg c14] at H; exact absurd H (by simp)
      rw [if_neg c12] at H; have c12b0 : decide (8 ≤ (wrap64 (x6_1 + 6))) = false := decide_eq_false c12; clear c12; have H' := Aside0.mk H; clear H; have p9 : 0 ≤ (x14_1 : Int) := od; have q9 : x14_1 < (t166.size : Int) := od; have hx9 := bt_at t166 x14_1; replace p9 := eq_true p9; replace q9 := eq_true q9
      go_wp2_with (first | ((with_reducible refine gate_callee (f := 172) rfl ?_); refine goesL_ (some 20) rfl rfl Tryz.func172 (by kernel_rfl) rfl #[.string (⟨#[65, 66, 67, 68, 69, 70, 71, 72, 73, 74, 75, 76, 77, 78, 79, 80, 81, 82, 83, 84, 85, 86, 87, 88, 89, 90, 97, 98, 99, 100, 101, 102, 103, 104, 105, 106, 107, 108, 109, 110, 111, 112, 113, 114, 115, 116, 117, 118, 119, 120, 121, 122, 48, 49, 50, 51, 52, 53, 54, 55, 56, 57, 43, 47]⟩ : ByteArray), .int .u8 (bt t166 x14_1)] rfl am ?_; (with_reducible refine (strings_IndexByte.calls (⟨#[65, 66, 67, 68, 69, 70, 71, 72, 73, 74, 75, 76, 77, 78, 79, 80, 81, 82, 83, 84, 85, 86, 87, 88, 89, 90, 97, 98, 99, 100, 101, 102, 103, 104, 105, 106, 107, 108, 109, 110, 111, 112, 113, 114, 115, 116, 117, 118, 119, 120, 121, 122, 48, 49, 50, 51, 52, 53, 54, 55, 56, 57, 43, 47]⟩ : ByteArray) (bt t166 x14_1) t169 _ A10.out).mono ?_); rintro e w' ⟨rfl, ⟨nd, rfl⟩⟩; refine ⟨_, rfl, ?_⟩))
      go_roundg k1
      case measure => have := HK1.out; omega
      case rel => exact ⟨(x4_1), (Go.bits .or .i64 (wrap64 (x5_1 * 64)) t169), (wrap64 (x6_1 + 6)), (wrap64 (x14_1 + 1)), cl, cl, cl, H', ⟨by have := HK1.out; omega⟩, ⟨ra HO_4.out⟩, ⟨bw⟩⟩
     rw [if_neg c8] at H; exact absurd H (by simp)
    rw [if_neg c7] at H; exact absurd H (by simp)
   rw [if_neg c6] at H; have c6b0 := decide_eq_false c6; clear c6; replace H := Option.bind_eq_some_iff.mp H; obtain ⟨t168, A200, H⟩ := H; have A20 := Aside0.mk A200; clear A200
   by_cases c21 : t168.toList = t166.toList
   ·rw [if_pos c21] at H; have c21b0 := beq_iff_eq.mpr c21; have c21b1 := bne_eq_false_iff_eq.mpr c21; clear c21; simp only [Option.some.injEq, Prod.mk.injEq] at H; obtain ⟨rfl, rfl⟩ := H; have hcv22 := own_string (P := Tryz.prog) Tryz.underlying83 Tryz.underlying5 Tryz.underlying9 (Kd.own_of_R HO_4.out)
    go_wp2_with (first | ((with_reducible refine gate_callee (f := 191) rfl ?_); refine goesL_ (some 48) rfl rfl Tryz.func191 (by kernel_rfl) rfl #[.string (strOfNums x4_1)] rfl am ?_; (with_reducible refine (b64_Plain.calls (strOfNums x4_1) t168 _ A20.out).mono ?_); rintro e w23 ⟨rfl, hb⟩; refine ⟨_, rfl, ?_⟩; have n0_ := Aside0.mk (Kd.R_below (ra HO_4.out) hb); have n1_ := Aside0.mk (below_step bw hb); clear HO_4; clear HB; have HO_4 := n0_; have HB := n1_; clear n0_ n1_; (try clear hb); (try clear hb2); (try clear hk); (try clear hi); have hcv24 := own_string (P := Tryz.prog) Tryz.underlying83 Tryz.underlying5 Tryz.underlying9 (Kd.own_of_R HO_4.out)))
    go_ret2
    exact ⟨ew, bw⟩
   rw [if_neg c21] at H; have c21b0 := beq_eq_false_iff_ne.mpr c21; have c21b1 := bne_iff_ne.mpr c21; simp only [Option.some.injEq, Prod.mk.injEq] at H; obtain ⟨rfl, rfl⟩ := H; have hcv25 := own_string (P := Tryz.prog) Tryz.underlying83 Tryz.underlying5 Tryz.underlying9 (Kd.own_of_R HO_4.out)
   go_wp2_with (first | ((with_reducible refine gate_callee (f := 191) rfl ?_); refine goesL_ (some 48) rfl rfl Tryz.func191 (by kernel_rfl) rfl #[.string (strOfNums x4_1)] rfl am ?_; (with_reducible refine (b64_Plain.calls (strOfNums x4_1) t168 _ A20.out).mono ?_); rintro e w26 ⟨rfl, hb⟩; refine ⟨_, rfl, ?_⟩; have n0_ := Aside0.mk (Kd.R_below (ra HO_4.out) hb); have n1_ := Aside0.mk (below_step bw hb); clear HO_4; clear HB; have HO_4 := n0_; have HB := n1_; clear n0_ n1_; (try clear hb); (try clear hb2); (try clear hk); (try clear hi)))
   go_ret2
   exact ⟨ew, bw⟩
def ew_octets.j0 : Nat → ByteArray → ByteArray → Bool → Option (ByteArray × Bool)
 | 0, _, _, _ => none
 | k + 1, x1, x8, x9 => if x9 = true then ((ew_quoted.f k x1).bind fun bt173 => (some (bt173.1, bt173.2))) else (if x8.toList = ([98] : List UInt8) then ((b64_Decode.f k x1).bind fun bt175 => (some (bt175.1, (bt175.2 == 0)))) else (if x8.toList = ([66] : List UInt8) then ((b64_Decode.f k x1).bind fun bt177 => (some (bt177.1, (bt177.2 == 0)))) else (some ((⟨#[]⟩ : ByteArray), false))))
def ew_octets.f (k : Nat) (a0 : ByteArray) (a1 : ByteArray) : Option (ByteArray × Bool) := if a0.toList = ([113] : List UInt8) then (ew_octets.j0 k a1 a0 (a0.toList == ([113] : List UInt8))) else (ew_octets.j0 k a1 a0 (a0.toList == ([81] : List UInt8)))
set_option maxRecDepth 100000 in
theorem ew_octets.calls (k : Nat) (a0 : ByteArray) (a1 : ByteArray) (r1 : ByteArray) (r2 : Bool) (w : World) (h : ew_octets.f k a0 a1 = some (r1, r2)) :
  Calls Tryz.prog 134 #[.string a0, .string a1] w fun e w' => e = .returned (.tuple #[.string r1, .bool r2]) ∧ Below w.heap.size w w' := by
 have HB := Aside0.mk (Below.refl w.heap.size w); have H : (if a0.toList = ([113] : List UInt8) then (ew_octets.j0 k a1 a0 (a0.toList == ([113] : List UInt8))) else (ew_octets.j0 k a1 a0 (a0.toList == ([81] : List UInt8)))) = some (r1, r2) := h; clear h; have HC3 := Aside0.mk H; clear H
 go_enter Tryz.func134, Tryz.ntmps134
 go_upto_if 9 with (fail)
 go_cut [9] (fun v9 wc => ∃ (kq : Nat) (x9_2 : Bool), v9 = .bool x9_2 ∧ Aside0 (ew_octets.j0 kq a1 a0 x9_2 = some (r1, r2)) ∧ Aside0 (kq ≤ k) ∧ Aside0 (Below w.heap.size w wc))
 case first =>
  have H := HC3.out; clear HC3
  by_cases c4 : a0.toList = ([113] : List UInt8)
  ·rw [if_pos c4] at H; have c4b0 := beq_iff_eq.mpr c4; have c4b1 := bne_eq_false_iff_eq.mpr c4; clear c4
   (first | rw [c4b0] | (simp only [i64_w, i32_w]; rw [c4b0]) | skip)
   have H' := Aside0.mk H; clear H
   go_wp2
   go_meet
   case rel => exact ⟨_, ((a0.toList == ([113] : List UInt8))), cl, H', ⟨by first | omega | exact Nat.le_refl _⟩, ⟨bw⟩⟩
  rw [if_neg c4] at H; have c4b0 := beq_eq_false_iff_ne.mpr c4; have c4b1 := bne_iff_ne.mpr c4
  (first | rw [c4b0] | (simp only [i64_w, i32_w]; rw [c4b0]) | skip)
  have H' := Aside0.mk H; clear H
  go_wp2
  go_meet
  case rel => exact ⟨_, ((a0.toList == ([81] : List UInt8))), cl, H', ⟨by first | omega | exact Nat.le_refl _⟩, ⟨bw⟩⟩
 case rest =>
  clear HC3
  try clear c1
  try clear p2
  try clear c4
  try clear c4b0
  try clear c4b1
  obtain ⟨kq, x9_2, rfl, HA, HJ2, HB⟩ := hcut; cases kq with
  | zero => exact absurd HA.out (by simp [ew_octets.j0])
  | succ kj2 =>
   have H := HA.out; clear HA; simp only [ew_octets.j0] at H
   by_cases c5 : x9_2 = true
   ·subst c5; rw [if_pos rfl] at H; replace H := Option.bind_eq_some_iff.mp H; obtain ⟨⟨t173, t174⟩, A60, H⟩ := H; replace H : (some (t173, t174)) = some (r1, r2) := H; have A6 := Aside0.mk A60; clear A60; simp only [Option.some.injEq, Prod.mk.injEq] at H; obtain ⟨rfl, rfl⟩ := H
    go_wp2_with (first | ((with_reducible refine gate_callee (f := 161) rfl ?_); refine goesL_ (some 13) rfl rfl Tryz.func161 (by kernel_rfl) rfl #[.string a1] rfl am ?_; (with_reducible refine (ew_quoted.calls kj2 a1 t173 t174 _ A6.out).mono ?_); rintro e w7 ⟨rfl, hb⟩; refine ⟨_, rfl, ?_⟩; have n0_ := Aside0.mk (below_step bw hb); clear HB; have HB := n0_; clear n0_; (try clear hb); (try clear hb2); (try clear hk); (try clear hi)))
    go_ret2
    exact ⟨ew, bw⟩
   replace c5 := Bool.eq_false_iff.mpr c5; subst c5; rw [if_neg nft] at H
   by_cases c8 : a0.toList = ([98] : List UInt8)
   ·rw [if_pos c8] at H; have c8b0 := beq_iff_eq.mpr c8; have c8b1 := bne_eq_false_iff_eq.mpr c8; clear c8; replace H := Option.bind_eq_some_iff.mp H; obtain ⟨⟨t175, t176⟩, A90, H⟩ := H; replace H : (some (t175, (t176 == 0))) = some (r1, r2) := H; have A9 := Aside0.mk A90; clear A90; simp only [Option.some.injEq, Prod.mk.injEq] at H; obtain ⟨rfl, rfl⟩ := H
    go_wp2_with (first | ((with_reducible refine gate_callee (f := 162) rfl ?_); refine goesL_ (some 21) rfl rfl Tryz.func162 (by kernel_rfl) rfl #[.string a1] rfl am ?_; (with_reducible refine (b64_Decode.calls kj2 a1 t175 t176 _ A9.out).mono ?_); rintro e w10 ⟨rfl, hb⟩; refine ⟨_, rfl, ?_⟩; have n0_ := Aside0.mk (below_step bw hb); clear HB; have HB := n0_; clear n0_; (try clear hb); (try clear hb2); (try clear hk); (try clear hi)))
    go_ret2
    exact ⟨ew, bw⟩
   rw [if_neg c8] at H; have c8b0 := beq_eq_false_iff_ne.mpr c8; have c8b1 := bne_iff_ne.mpr c8
   by_cases c11 : a0.toList = ([66] : List UInt8)
   ·rw [if_pos c11] at H; have c11b0 := beq_iff_eq.mpr c11; have c11b1 := bne_eq_false_iff_eq.mpr c11; clear c11; replace H := Option.bind_eq_some_iff.mp H; obtain ⟨⟨t177, t178⟩, A120, H⟩ := H; replace H : (some (t177, (t178 == 0))) = some (r1, r2) := H; have A12 := Aside0.mk A120; clear A120; simp only [Option.some.injEq, Prod.mk.injEq] at H; obtain ⟨rfl, rfl⟩ := H
    go_wp2_with (first | ((with_reducible refine gate_callee (f := 162) rfl ?_); refine goesL_ (some 21) rfl rfl Tryz.func162 (by kernel_rfl) rfl #[.string a1] rfl am ?_; (with_reducible refine (b64_Decode.calls kj2 a1 t177 t178 _ A12.out).mono ?_); rintro e w13 ⟨rfl, hb⟩; refine ⟨_, rfl, ?_⟩; have n0_ := Aside0.mk (below_step bw hb); clear HB; have HB := n0_; clear n0_; (try clear hb); (try clear hb2); (try clear hk); (try clear hi)))
    go_ret2
    exact ⟨ew, bw⟩
   rw [if_neg c11] at H; have c11b0 := beq_eq_false_iff_ne.mpr c11; have c11b1 := bne_iff_ne.mpr c11; simp only [Option.some.injEq, Prod.mk.injEq] at H; obtain ⟨rfl, rfl⟩ := H
   go_wp2
   go_ret2
   exact ⟨ew, bw⟩
end Go.Proofs.YtcndmhpeolbepaaGreatDoor.Fn
namespace Go.Proofs.YtcndmhpeolbepaaGreatDoor.Fn
open Go.RowKit Go.Proofs.YtcndmhpeolbepaaGreatDoorW.PrintWords Go.Proofs.YtcndmhpeolbepaaGreatDoorW.PrintLast Go.Proofs.YtcndmhpeolbepaaGreatDoorW.PrintMore
attribute [local go_sem] max2_int min2_int max_two min_two max_three min_three max_four min_four
set_option linter.unusedVariables false
set_option linter.unusedSimpArgs false

mutual
def ew_word.j0 : Nat → List ByteArray → Bool → Option (ByteArray × Int)
 | 0, _, _ => none
 | k + 1, x6, x48 => if x48 = true then (some ((⟨#[]⟩ : ByteArray), 0)) else (if 0 < (x6.length : Int) then (if 1 < (x6.length : Int) then (if 2 < (x6.length : Int) then ((ew_octets.f k (rdOf ByteArray.empty x6 1) (rdOf ByteArray.empty x6 2)).bind fun bt196 => (if (wrap64 ((wrap64 ((wrap64 ((wrap64 ((wrap64 ((wrap64 (2 + ((rdOf ByteArray.empty x6 0).size : Int))) + 1)) + ((rdOf ByteArray.empty x6 1).size : Int))) + 1)) + ((rdOf ByteArray.empty x6 2).size : Int))) + 2)) > 75 then (ew_word.j1 k x6 (wrap64 ((wrap64 ((wrap64 ((wrap64 ((wrap64 ((wrap64 (2 + ((rdOf ByteArray.empty x6 0).size : Int))) + 1)) + ((rdOf ByteArray.empty x6 1).size : Int))) + 1)) + ((rdOf ByteArray.empty x6 2).size : Int))) + 2)) bt196.1 true) else (ew_word.j1 k x6 (wrap64 ((wrap64 ((wrap64 ((wrap64 ((wrap64 ((wrap64 (2 + ((rdOf ByteArray.empty x6 0).size : Int))) + 1)) + ((rdOf ByteArray.empty x6 1).size : Int))) + 1)) + ((rdOf ByteArray.empty x6 2).size : Int))) + 2)) bt196.1 (!bt196.2)))) else (none)) else (none)) else (none))
def ew_word.j1 : Nat → List ByteArray → Int → ByteArray → Bool → Option (ByteArray × Int)
 | 0, _, _, _, _ => none
 | k + 1, x6, x7, x8, x82 => if x82 = true then (some ((⟨#[]⟩ : ByteArray), 0)) else (if 0 < (x6.length : Int) then ((ew_signs.f (rdOf ByteArray.empty x6 0) x8).bind fun bt199 => (if bt199.2 = true then (some (bt199.1, x7)) else (some ((⟨#[]⟩ : ByteArray), 0)))) else (none))
end
def ew_word.f (k : Nat) (a0 : ByteArray) : Option (ByteArray × Int) := (strings_CutPrefix.f a0 (⟨#[61, 63]⟩ : ByteArray)).bind fun bt179 => (if bt179.2 = true then ((strings_SplitN.f bt179.1 (⟨#[63]⟩ : ByteArray) 4).bind fun t181 => (if (t181.length : Int) < 4 then (ew_word.j0 k t181 true) else (if 0 < (t181.length : Int) then (if (rdOf ByteArray.empty t181 0).toList = ([] : List UInt8) then (ew_word.j0 k t181 true) else ((ew_solid.f k (rdOf ByteArray.empty t181 0)).bind fun t186 => (if t186 = true then (if 2 < (t181.length : Int) then ((ew_solid.f k (rdOf ByteArray.empty t181 2)).bind fun t188 => (if t188 = true then (if 3 < (t181.length : Int) then ((strings_HasPrefix.f (rdOf ByteArray.empty t181 3) (⟨#[61]⟩ : ByteArray)).bind fun t190 => (ew_word.j0 k t181 (!t190))) else (none)) else (ew_word.j0 k t181 true))) else (none)) else (ew_word.j0 k t181 true)))) else (none)))) else (some ((⟨#[]⟩ : ByteArray), 0)))
def ew_word.T7 : Bool × List (List Nat × List Nat) := (true, [([], []), ([0], [0]), ([1], [1]), ([2], [2]), ([3], [3]), ([4], [4]), ([], []), ([6], [6]), ([7], [7]), ([8], [8]), ([5, 9], [5, 9]), ([10], [10]), ([], []), ([12], [12]), ([13], [13]), ([14], [14]), ([11, 15], [11, 15]), ([16], [16]), ([17, 0, 1, 2, 3, 4, 5, 6, 7, 8, 9, 10, 11, 12, 13, 14, 15, 16, 17], [17])])
def ew_word.B7 : List Nat := [0, 1, 3, 7, 15, 31, 0, 64, 192, 448, 1023, 2047, 0, 4096, 12288, 28672, 65535, 131071, 262143]
theorem ew_word.tab7 : rtab .any (opsOf Tryz.f95 7) = ew_word.T7 := by kernel_rfl
theorem ew_word.bits7 : waitsOk ew_word.T7.2 ew_word.B7 = true := by kernel_rfl
def ew_word.T8 : Bool × List (List Nat × List Nat) := (true, [([], []), ([0], [0]), ([1], [1]), ([], []), ([3], [3]), ([4], [4]), ([2, 5], [2, 5]), ([6], [6]), ([7], [7]), ([7], [7]), ([8, 6, 0, 1, 2, 3, 4, 5, 6, 7, 8], [8]), ([9, 10, 0, 1, 2, 3, 4, 5, 6, 7, 8, 9, 10], [9])])
def ew_word.B8 : List Nat := [0, 1, 3, 0, 8, 24, 63, 127, 255, 255, 511, 2047]
theorem ew_word.tab8 : rtab .any (opsOf Tryz.f95 8) = ew_word.T8 := by kernel_rfl
theorem ew_word.bits8 : waitsOk ew_word.T8.2 ew_word.B8 = true := by kernel_rfl
set_option maxHeartbeats 8000000 in
set_option maxRecDepth 100000 in
theorem ew_word.calls (k : Nat) (a0 : ByteArray) (r1 : ByteArray) (r2 : Int) (w : World) (hG : Glob w) (h : ew_word.f k a0 = some (r1, r2)) :
  Calls Tryz.prog 95 #[.string a0] w fun e w' => e = .returned (.tuple #[.string r1, .int .i64 r2]) ∧ Below w.heap.size w w' := by
 have HB := Aside0.mk (Below.refl w.heap.size w); have H : ((strings_CutPrefix.f a0 (⟨#[61, 63]⟩ : ByteArray)).bind fun bt179 => (if bt179.2 = true then ((strings_SplitN.f bt179.1 (⟨#[63]⟩ : ByteArray) 4).bind fun t181 => (if (t181.length : Int) < 4 then (ew_word.j0 k t181 true) else (if 0 < (t181.length : Int) then (if (rdOf ByteArray.empty t181 0).toList = ([] : List UInt8) then (ew_word.j0 k t181 true) else ((ew_solid.f k (rdOf ByteArray.empty t181 0)).bind fun t186 => (if t186 = true then (if 2 < (t181.length : Int) then ((ew_solid.f k (rdOf ByteArray.empty t181 2)).bind fun t188 => (if t188 = true then (if 3 < (t181.length : Int) then ((strings_HasPrefix.f (rdOf ByteArray.empty t181 3) (⟨#[61]⟩ : ByteArray)).bind fun t190 => (ew_word.j0 k t181 (!t190))) else (none)) else (ew_word.j0 k t181 true))) else (none)) else (ew_word.j0 k t181 true)))) else (none)))) else (some ((⟨#[]⟩ : ByteArray), 0)))) = some (r1, r2) := h; clear h; replace H := Option.bind_eq_some_iff.mp H; obtain ⟨⟨t179, t180⟩, A20, H⟩ := H; replace H : (if t180 = true then ((strings_SplitN.f t179 (⟨#[63]⟩ : ByteArray) 4).bind fun t181 => (if (t181.length : Int) < 4 then (ew_word.j0 k t181 true) else (if 0 < (t181.length : Int) then (if (rdOf ByteArray.empty t181 0).toList = ([] : List UInt8) then (ew_word.j0 k t181 true) else ((ew_solid.f k (rdOf ByteArray.empty t181 0)).bind fun t186 => (if t186 = true then (if 2 < (t181.length : Int) then ((ew_solid.f k (rdOf ByteArray.empty t181 2)).bind fun t188 => (if t188 = true then (if 3 < (t181.length : Int) then ((strings_HasPrefix.f (rdOf ByteArray.empty t181 3) (⟨#[61]⟩ : ByteArray)).bind fun t190 => (ew_word.j0 k t181 (!t190))) else (none)) else (ew_word.j0 k t181 true))) else (none)) else (ew_word.j0 k t181 true)))) else (none)))) else (some ((⟨#[]⟩ : ByteArray), 0))) = some (r1, r2) := H; have A2 := Aside0.mk A20; clear A20
 by_cases c3 : t180 = true
 ·subst c3; rw [if_pos rfl] at H; replace H := Option.bind_eq_some_iff.mp H; obtain ⟨t181, A40, H⟩ := H; have A4 := Aside0.mk A40; clear A40; have HC5 := Aside0.mk H; clear H
  go_enter Tryz.func95, Tryz.ntmps95
  go_upto_region 5 with (first | ((with_reducible refine gate_callee (f := 130) rfl ?_); refine goesL_ (some 12) rfl rfl Tryz.func130 (by kernel_rfl) rfl #[.string a0, .string (⟨#[61, 63]⟩ : ByteArray)] rfl am ?_; (with_reducible refine (strings_CutPrefix.calls a0 (⟨#[61, 63]⟩ : ByteArray) t179 true _ A2.out).mono ?_); rintro e w' ⟨rfl, ⟨nd, rfl⟩⟩; refine ⟨_, rfl, ?_⟩) | ((with_reducible refine gate_callee (f := 131) rfl ?_); refine goesL_ (some 18) rfl rfl Tryz.func131 (by kernel_rfl) rfl #[.string t179, .string (⟨#[63]⟩ : ByteArray), .int .i64 4] rfl am ?_; (with_reducible refine (strings_SplitN.calls (hG := by first | exact hG | exact Glob.below hG (by first | exact HB.out | (repeat (first | (with_reducible first | exact HB.out | apply below_alloc | apply pw_below_drewN | apply below_drew1) | exact HB.out))) | exact Glob.drawn hG (d0)) t179 (⟨#[63]⟩ : ByteArray) 4 t181 _ A4.out).mono ?_); rintro e w6 ⟨v182, rfl, ho0, hb⟩; refine ⟨_, rfl, ?_⟩; have n0_ := Aside0.mk (Kd.R_lower ho0 (below_size bw)); have n1_ := Aside0.mk (below_step bw hb); clear HB; have HO183 := n0_; have HB := n1_; clear n0_ n1_; (try clear hb); (try clear hb2); (try clear hk); (try clear hi); (try clear ho0)))
  (try simp only [Act.put, sa_, sz_, ss_])
  go_cut [48] (fun v48 wc => ∃ (kq : Nat) (x48_4 : Bool), v48 = .bool x48_4 ∧ Aside0 (ew_word.j0 kq t181 x48_4 = some (r1, r2)) ∧ Aside0 (kq ≤ k) ∧ Aside0 (Kd.R Kd.string 9 wc w.heap.size (fun _ => True) v182 t181) ∧ Aside0 (Below w.heap.size w wc))
  case first =>
   have H := HC5.out; clear HC5
   by_cases c7 : (t181.length : Int) < 4
   ·rw [if_pos c7] at H; have c7b0 := decide_eq_true c7; have c7b1 : decide (t181.length < 4) = true := decide_eq_true (by omega); clear c7
    (first | rw [c7b0] | (simp only [i64_w, i32_w]; rw [c7b0]) | skip)
    have H' := Aside0.mk H; clear H; obtain ⟨Ao8, co8, eo8⟩ := Kd.R_slice HO183.out; subst eo8
    go_wp2
    go_meet
    case rel => exact ⟨_, (true), cl, H', ⟨by first | omega | exact Nat.le_refl _⟩, ⟨ra HO183.out⟩, ⟨bw⟩⟩
   rw [if_neg c7] at H; have c7b0 := decide_eq_false c7; have c7b1 : decide (t181.length < 4) = false := decide_eq_false (by omega); clear c7
   (first | rw [c7b0] | (simp only [i64_w, i32_w]; rw [c7b0]) | skip)
   by_cases c9 : 0 < (t181.length : Int)
   ·rw [if_pos c9] at H; have c9b0 := decide_eq_true c9; have c9b1 : decide (0 < t181.length) = true := decide_eq_true (by omega); clear c9
    by_cases c10 : (rdOf ByteArray.empty t181 0).toList = ([] : List UInt8)
    ·rw [if_pos c10] at H; have c10b0 := beq_iff_eq.mpr c10; have c10b1 := bne_eq_false_iff_eq.mpr c10; clear c10; have H' := Aside0.mk H; clear H; obtain ⟨Ao11, co11, eo11⟩ := Kd.R_slice HO183.out; subst eo11; have p184 : 0 ≤ (0 : Int) := (by omega)
     have q184 : 0 < (t181.length : Int) := od; obtain ⟨ad184, e184, hx184_0⟩ := Kd.at_string (Kd.R_reads' HO183.out).2.2 0 p184 q184; cases e184; have qi184 : (0 < t181.length) = True := eq_true (by omega)
     (try rw [show ((0 : Int)).toNat = 0 from rfl] at hx184_0)
     (try rw [Addr.add_zero'] at hx184_0)
     replace p184 := eq_true p184; replace q184 := eq_true q184
     go_wp2
     go_meet
     case rel => exact ⟨_, (true), cl, H', ⟨by first | omega | exact Nat.le_refl _⟩, ⟨ra HO183.out⟩, ⟨bw⟩⟩
    rw [if_neg c10] at H; have c10b0 := beq_eq_false_iff_ne.mpr c10; have c10b1 := bne_iff_ne.mpr c10; replace H := Option.bind_eq_some_iff.mp H; obtain ⟨t186, A120, H⟩ := H; have A12 := Aside0.mk A120; clear A120
    by_cases c13 : t186 = true
    ·subst c13; rw [if_pos rfl] at H
     by_cases c14 : 2 < (t181.length : Int)
     ·rw [if_pos c14] at H; have c14b0 := decide_eq_true c14; have c14b1 : decide (2 < t181.length) = true := decide_eq_true (by omega); clear c14; replace H := Option.bind_eq_some_iff.mp H; obtain ⟨t188, A150, H⟩ := H; have A15 := Aside0.mk A150; clear A150
      by_cases c16 : t188 = true
      ·subst c16; rw [if_pos rfl] at H
       by_cases c17 : 3 < (t181.length : Int)
       ·rw [if_pos c17] at H; have c17b0 := decide_eq_true c17; have c17b1 : decide (3 < t181.length) = true := decide_eq_true (by omega); clear c17; replace H := Option.bind_eq_some_iff.mp H; obtain ⟨t190, A180, H⟩ := H; have A18 := Aside0.mk A180; clear A180; have H' := Aside0.mk H; clear H; obtain ⟨Ao19, co19, eo19⟩ := Kd.R_slice HO183.out; subst eo19; have p184 : 0 ≤ (0 : Int) := (by omega)
        have q184 : 0 < (t181.length : Int) := od; obtain ⟨ad184, e184, hx184_0⟩ := Kd.at_string (Kd.R_reads' HO183.out).2.2 0 p184 q184; cases e184; have qi184 : (0 < t181.length) = True := eq_true (by omega)
        (try rw [show ((0 : Int)).toNat = 0 from rfl] at hx184_0)
        (try rw [Addr.add_zero'] at hx184_0)
        replace p184 := eq_true p184; replace q184 := eq_true q184; have p185 : 0 ≤ (0 : Int) := (by omega)
        have q185 : 0 < (t181.length : Int) := od; obtain ⟨ad185, e185, hx185_0⟩ := Kd.at_string (Kd.R_reads' HO183.out).2.2 0 p185 q185; obtain rfl : ad184 = ad185 := (by injection e185)
        have qi185 : (0 < t181.length) = True := eq_true (by omega)
        (try rw [show ((0 : Int)).toNat = 0 from rfl] at hx185_0)
        (try rw [Addr.add_zero'] at hx185_0)
        replace p185 := eq_true p185; replace q185 := eq_true q185
        go_wp2_with (first | (go_at_call 132; (with_reducible refine (ew_solid.calls k (rdOf ByteArray.empty t181 0) true _ A12.out).mono ?_); rintro e w' ⟨rfl, ⟨nd, rfl⟩⟩; have p187 : 0 ≤ (2 : Int) := (by omega); have q187 : 2 < (t181.length : Int) := od; obtain ⟨ad187, e187, hx187_0⟩ := Kd.at_string (Kd.R_reads' HO183.out).2.2 2 p187 q187; obtain rfl : ad184 = ad187 := (by injection e187); (try simp only [show (2 : Int).toNat = 2 from rfl, Nat.reduceMul, Nat.reduceEqDiff, Go.Addr.add, ↓reduceIte] at hx187_0); have qi187 : (2 < t181.length) = True := eq_true (by omega); (try rw [show ((2 : Int)).toNat = 2 from rfl] at hx187_0); replace p187 := eq_true p187; replace q187 := eq_true q187) | (go_at_call 132; (with_reducible refine (ew_solid.calls k (rdOf ByteArray.empty t181 2) true _ A15.out).mono ?_); rintro e w' ⟨rfl, ⟨nd, rfl⟩⟩; have p189 : 0 ≤ (3 : Int) := (by omega); have q189 : 3 < (t181.length : Int) := od; obtain ⟨ad189, e189, hx189_0⟩ := Kd.at_string (Kd.R_reads' HO183.out).2.2 3 p189 q189; obtain rfl : ad184 = ad189 := (by injection e189); (try simp only [show (3 : Int).toNat = 3 from rfl, Nat.reduceMul, Nat.reduceEqDiff, Go.Addr.add, ↓reduceIte] at hx189_0); have qi189 : (3 < t181.length) = True := eq_true (by omega); (try rw [show ((3 : Int)).toNat = 3 from rfl] at hx189_0); replace p189 := eq_true p189; replace q189 := eq_true q189) | (go_at_call 133; (with_reducible refine (strings_HasPrefix.calls (rdOf ByteArray.empty t181 3) (⟨#[61]⟩ : ByteArray) t190 _ A18.out).mono ?_); rintro e w' ⟨rfl, ⟨nd, rfl⟩⟩))
        go_meet
        case rel => exact ⟨_, (!t190), cl, H', ⟨by first | omega | exact Nat.le_refl _⟩, ⟨ra HO183.out⟩, ⟨bw⟩⟩
       rw [if_neg c17] at H; exact absurd H (by simp)
      replace c16 := Bool.eq_false_iff.mpr c16; subst c16; rw [if_neg nft] at H; have H' := Aside0.mk H; clear H; obtain ⟨Ao20, co20, eo20⟩ := Kd.R_slice HO183.out; subst eo20; have p184 : 0 ≤ (0 : Int) := (by omega)
      have q184 : 0 < (t181.length : Int) := od; obtain ⟨ad184, e184, hx184_0⟩ := Kd.at_string (Kd.R_reads' HO183.out).2.2 0 p184 q184; cases e184; have qi184 : (0 < t181.length) = True := eq_true (by omega)
      (try rw [show ((0 : Int)).toNat = 0 from rfl] at hx184_0)
      (try rw [Addr.add_zero'] at hx184_0)
      replace p184 := eq_true p184; replace q184 := eq_true q184; have p185 : 0 ≤ (0 : Int) := (by omega)
      have q185 : 0 < (t181.length : Int) := od; obtain ⟨ad185, e185, hx185_0⟩ := Kd.at_string (Kd.R_reads' HO183.out).2.2 0 p185 q185; obtain rfl : ad184 = ad185 := (by injection e185)
      have qi185 : (0 < t181.length) = True := eq_true (by omega)
      (try rw [show ((0 : Int)).toNat = 0 from rfl] at hx185_0)
      (try rw [Addr.add_zero'] at hx185_0)
      replace p185 := eq_true p185; replace q185 := eq_true q185
      go_wp2_with (first | (go_at_call 132; (with_reducible refine (ew_solid.calls k (rdOf ByteArray.empty t181 0) true _ A12.out).mono ?_); rintro e w' ⟨rfl, ⟨nd, rfl⟩⟩; have p187 : 0 ≤ (2 : Int) := (by omega); have q187 : 2 < (t181.length : Int) := od; obtain ⟨ad187, e187, hx187_0⟩ := Kd.at_string (Kd.R_reads' HO183.out).2.2 2 p187 q187; obtain rfl : ad184 = ad187 := (by injection e187); (try simp only [show (2 : Int).toNat = 2 from rfl, Nat.reduceMul, Nat.reduceEqDiff, Go.Addr.add, ↓reduceIte] at hx187_0); have qi187 : (2 < t181.length) = True := eq_true (by omega); (try rw [show ((2 : Int)).toNat = 2 from rfl] at hx187_0); replace p187 := eq_true p187; replace q187 := eq_true q187) | (go_at_call 132; (with_reducible refine (ew_solid.calls k (rdOf ByteArray.empty t181 2) false _ A15.out).mono ?_); rintro e w' ⟨rfl, ⟨nd, rfl⟩⟩))
      go_meet
      case rel => exact ⟨_, (true), cl, H', ⟨by first | omega | exact Nat.le_refl _⟩, ⟨ra HO183.out⟩, ⟨bw⟩⟩
     rw [if_neg c14] at H; exact absurd H (by simp)
    replace c13 := Bool.eq_false_iff.mpr c13; subst c13; rw [if_neg nft] at H; have H' := Aside0.mk H; clear H; obtain ⟨Ao21, co21, eo21⟩ := Kd.R_slice HO183.out; subst eo21; have p184 : 0 ≤ (0 : Int) := (by omega)
    have q184 : 0 < (t181.length : Int) := od; obtain ⟨ad184, e184, hx184_0⟩ := Kd.at_string (Kd.R_reads' HO183.out).2.2 0 p184 q184; cases e184; have qi184 : (0 < t181.length) = True := eq_true (by omega)
    (try rw [show ((0 : Int)).toNat = 0 from rfl] at hx184_0)
    (try rw [Addr.add_zero'] at hx184_0)
    replace p184 := eq_true p184; replace q184 := eq_true q184; have p185 : 0 ≤ (0 : Int) := (by omega)
    have q185 : 0 < (t181.length : Int) := od; obtain ⟨ad185, e185, hx185_0⟩ := Kd.at_string (Kd.R_reads' HO183.out).2.2 0 p185 q185; obtain rfl : ad184 = ad185 := (by injection e185)
    have qi185 : (0 < t181.length) = True := eq_true (by omega)
    (try rw [show ((0 : Int)).toNat = 0 from rfl] at hx185_0)
    (try rw [Addr.add_zero'] at hx185_0)
    replace p185 := eq_true p185; replace q185 := eq_true q185
    go_wp2_with (first | (go_at_call 132; (with_reducible refine (ew_solid.calls k (rdOf ByteArray.empty t181 0) false _ A12.out).mono ?_); rintro e w' ⟨rfl, ⟨nd, rfl⟩⟩))
    go_meet
    case rel => exact ⟨_, (true), cl, H', ⟨by first | omega | exact Nat.le_refl _⟩, ⟨ra HO183.out⟩, ⟨bw⟩⟩
   rw [if_neg c9] at H; exact absurd H (by simp)
  case rest =>
   clear HC5; obtain ⟨kq, x48_4, rfl, HA, HJ4, HO_6, HB⟩ := hcut; cases kq with
   | zero => exact absurd HA.out (by simp [ew_word.j0])
   | succ kj4 =>
    have H := HA.out; clear HA; simp only [ew_word.j0] at H
    by_cases c22 : x48_4 = true
    ·subst c22; rw [if_pos rfl] at H; simp only [Option.some.injEq, Prod.mk.injEq] at H; obtain ⟨rfl, rfl⟩ := H
     go_wp2
     go_ret2
     exact ⟨ew, bw⟩
    replace c22 := Bool.eq_false_iff.mpr c22; subst c22; rw [if_neg nft] at H
    by_cases c23 : 0 < (t181.length : Int)
    ·rw [if_pos c23] at H; have c23b0 := decide_eq_true c23; have c23b1 : decide (0 < t181.length) = true := decide_eq_true (by omega); clear c23
     by_cases c24 : 1 < (t181.length : Int)
     ·rw [if_pos c24] at H; have c24b0 := decide_eq_true c24; have c24b1 : decide (1 < t181.length) = true := decide_eq_true (by omega); clear c24
      by_cases c25 : 2 < (t181.length : Int)
      ·rw [if_pos c25] at H; have c25b0 := decide_eq_true c25; have c25b1 : decide (2 < t181.length) = true := decide_eq_true (by omega); clear c25; replace H := Option.bind_eq_some_iff.mp H; obtain ⟨⟨t196, t197⟩, A260, H⟩ := H; replace H : (if (wrap64 ((wrap64 ((wrap64 ((wrap64 ((wrap64 ((wrap64 (2 + ((rdOf ByteArray.empty t181 0).size : Int))) + 1)) + ((rdOf ByteArray.empty t181 1).size : Int))) + 1)) + ((rdOf ByteArray.empty t181 2).size : Int))) + 2)) > 75 then (ew_word.j1 kj4 t181 (wrap64 ((wrap64 ((wrap64 ((wrap64 ((wrap64 ((wrap64 (2 + ((rdOf ByteArray.empty t181 0).size : Int))) + 1)) + ((rdOf ByteArray.empty t181 1).size : Int))) + 1)) + ((rdOf ByteArray.empty t181 2).size : Int))) + 2)) t196 true) else (ew_word.j1 kj4 t181 (wrap64 ((wrap64 ((wrap64 ((wrap64 ((wrap64 ((wrap64 (2 + ((rdOf ByteArray.empty t181 0).size : Int))) + 1)) + ((rdOf ByteArray.empty t181 1).size : Int))) + 1)) + ((rdOf ByteArray.empty t181 2).size : Int))) + 2)) t196 (!t197))) = some (r1, r2) := H; have A26 := Aside0.mk A260; clear A260; have HC27 := Aside0.mk H; clear H
       try go_wp2
       have n0_ := Aside0.mk (Kd.R_drew HO_6.out); have n1_ := Aside0.mk (below_drew1 HB.out); clear HO_6 HB; have HO_6 := n0_; have HB := n1_; clear n0_ n1_; obtain ⟨Ao29, co29, eo29⟩ := Kd.R_slice HO_6.out
       (first | subst eo29 | (injection eo29 with f1_ f2_ f3_; have f4_ := f1_.symm; have f5_ := f3_.symm; clear f1_ f2_ f3_; subst f4_; subst f5_))
       have p191 : 0 ≤ (0 : Int) := (by omega)
       have q191 : 0 < (t181.length : Int) := od; obtain ⟨ad191, e191, hx191_0⟩ := Kd.at_string (Kd.R_reads' HO_6.out).2.2 0 p191 q191; cases e191; have qi191 : (0 < t181.length) = True := eq_true (by omega)
       (try rw [show ((0 : Int)).toNat = 0 from rfl] at hx191_0)
       (try rw [Addr.add_zero'] at hx191_0)
       replace p191 := eq_true p191; replace q191 := eq_true q191; have p192 : 0 ≤ (1 : Int) := (by omega)
       have q192 : 1 < (t181.length : Int) := od; obtain ⟨ad192, e192, hx192_0⟩ := Kd.at_string (Kd.R_reads' HO_6.out).2.2 1 p192 q192; obtain rfl : ad191 = ad192 := (by injection e192)
       (try simp only [show (1 : Int).toNat = 1 from rfl, Nat.reduceMul, Nat.reduceEqDiff, Go.Addr.add, ↓reduceIte] at hx192_0)
       have qi192 : (1 < t181.length) = True := eq_true (by omega)
       (try rw [show ((1 : Int)).toNat = 1 from rfl] at hx192_0)
       replace p192 := eq_true p192; replace q192 := eq_true q192; have p193 : 0 ≤ (2 : Int) := (by omega)
       have q193 : 2 < (t181.length : Int) := od; obtain ⟨ad193, e193, hx193_0⟩ := Kd.at_string (Kd.R_reads' HO_6.out).2.2 2 p193 q193; obtain rfl : ad191 = ad193 := (by injection e193)
       (try simp only [show (2 : Int).toNat = 2 from rfl, Nat.reduceMul, Nat.reduceEqDiff, Go.Addr.add, ↓reduceIte] at hx193_0)
       have qi193 : (2 < t181.length) = True := eq_true (by omega)
       (try rw [show ((2 : Int)).toNat = 2 from rfl] at hx193_0)
       replace p193 := eq_true p193; replace q193 := eq_true q193; refine start_ (n := 19) (S := fun w' => w'.cell? ad191 = some (.string (rdOf ByteArray.empty t181 0)) ∧ w'.cell? ⟨ad191.block, ad191.off + 1, none⟩ = some (.string (rdOf ByteArray.empty t181 1)) ∧ w'.cell? ⟨ad191.block, ad191.off + 2, none⟩ = some (.string (rdOf ByteArray.empty t181 2))) (ds := []) #[false, false, false, false, false, false, false, false, false, false, false, false, false, false, false, false, false, false, false] (by kernel_rfl) rfl rfl ⟨hx191_0, hx192_0, hx193_0⟩ (fun hHeld => ?_); refine with_tabW ew_word.tab7 ew_word.bits7 (fun HT_ HW_ => ?_)
       generalize wc.drew = w28 at HO_6 HB hx191_0 hx192_0 hx193_0 hHeld ⊢
       refine pure_ (i := 0) (N := some 49) (v := ?_) (a' := ?_) (bitsL 19 1) rfl rfl (any_of HT_.out (by kernel_rfl)) (fun _ _ _ h => h) (Or.inl ⟨by rfl, ?_⟩) ?_ ?_; rotate_left
       ·intro w'; go_simp; with_reducible rfl
       rotate_left
       ·simp only [Act.put, sa_, sz_, ss_, i64_w, i32_w]; rfl
       refine pure_ (i := 1) (N := some 50) (v := ?_) (a' := ?_) (bitsL 19 3) rfl rfl (any_of HT_.out (by kernel_rfl)) (fun _ _ _ h => h) (Or.inl ⟨by rfl, ?_⟩) ?_ ?_; rotate_left
       ·intro w'; go_simp; with_reducible rfl
       rotate_left
       ·simp only [Act.put, sa_, sz_, ss_, i64_w, i32_w]; rfl
       refine pure_ (i := 6) (N := some 55) (v := ?_) (a' := ?_) (bitsL 19 67) rfl rfl (any_of HT_.out (by kernel_rfl)) (fun _ _ _ h => h) (Or.inl ⟨by rfl, ?_⟩) ?_ ?_; rotate_left
       ·intro w'; go_simp; with_reducible rfl
       rotate_left
       ·simp only [Act.put, sa_, sz_, ss_, i64_w, i32_w]; rfl
       refine pure_ (i := 7) (N := some 56) (v := ?_) (a' := ?_) (bitsL 19 195) rfl rfl (any_of HT_.out (by kernel_rfl)) (fun _ _ _ h => h) (Or.inl ⟨by rfl, ?_⟩) ?_ ?_; rotate_left
       ·intro w'; go_simp; with_reducible rfl
       rotate_left
       ·simp only [Act.put, sa_, sz_, ss_, i64_w, i32_w]; rfl
       refine pure_ (i := 12) (N := some 61) (v := ?_) (a' := ?_) (bitsL 19 4291) rfl rfl (any_of HT_.out (by kernel_rfl)) (fun _ _ _ h => h) (Or.inl ⟨by rfl, ?_⟩) ?_ ?_; rotate_left
       ·intro w'; go_simp; with_reducible rfl
       rotate_left
       ·simp only [Act.put, sa_, sz_, ss_, i64_w, i32_w]; rfl
       refine pure_ (i := 13) (N := some 62) (v := ?_) (a' := ?_) (bitsL 19 12483) rfl rfl (any_of HT_.out (by kernel_rfl)) (fun _ _ _ h => h) (Or.inl ⟨by rfl, ?_⟩) ?_ ?_; rotate_left
       ·intro w'; go_simp; with_reducible rfl
       rotate_left
       ·simp only [Act.put, sa_, sz_, ss_, i64_w, i32_w]; rfl
       refine take_ (i := 2) (N := some 51) (v := ?_) (a' := ?_) (bitsL 19 12487) rfl rfl (take_ofW HT_.out HW_.out (by kernel_rfl)) (fun _ _ _ h => h) (Or.inl ⟨by rfl, ?_⟩) hHeld ?_ ?_; rotate_left
       ·rintro w' ⟨s0, s1, s2⟩; go_simp; with_reducible rfl
       rotate_left
       ·simp only [Act.put, sa_, sz_, ss_, i64_w, i32_w]; rfl
       refine pure_ (i := 3) (N := some 52) (v := ?_) (a' := ?_) (bitsL 19 12495) rfl rfl (any_of HT_.out (by kernel_rfl)) (fun _ _ _ h => h) (Or.inl ⟨by rfl, ?_⟩) ?_ ?_; rotate_left
       ·intro w'; go_simp; with_reducible rfl
       rotate_left
       ·simp only [Act.put, sa_, sz_, ss_, i64_w, i32_w]; rfl
       refine pure_ (i := 4) (N := some 53) (v := ?_) (a' := ?_) (bitsL 19 12511) rfl rfl (any_of HT_.out (by kernel_rfl)) (fun _ _ _ h => h) (Or.inl ⟨by rfl, ?_⟩) ?_ ?_; rotate_left
       ·intro w'; go_simp; with_reducible rfl
       rotate_left
       ·simp only [Act.put, sa_, sz_, ss_, i64_w, i32_w]; rfl
       refine pure_ (i := 5) (N := some 54) (v := ?_) (a' := ?_) (bitsL 19 12543) rfl rfl (any_of HT_.out (by kernel_rfl)) (fun _ _ _ h => h) (Or.inl ⟨by rfl, ?_⟩) ?_ ?_; rotate_left
       ·intro w'; go_simp; with_reducible rfl
       rotate_left
       ·simp only [Act.put, sa_, sz_, ss_, i64_w, i32_w]; rfl
       refine take_ (i := 8) (N := some 57) (v := ?_) (a' := ?_) (bitsL 19 12799) rfl rfl (take_ofW HT_.out HW_.out (by kernel_rfl)) (fun _ _ _ h => h) (Or.inl ⟨by rfl, ?_⟩) hHeld ?_ ?_; rotate_left
       ·rintro w' ⟨s0, s1, s2⟩; go_simp; with_reducible rfl
       rotate_left
       ·simp only [Act.put, sa_, sz_, ss_, i64_w, i32_w]; rfl
       refine pure_ (i := 9) (N := some 58) (v := ?_) (a' := ?_) (bitsL 19 13311) rfl rfl (any_of HT_.out (by kernel_rfl)) (fun _ _ _ h => h) (Or.inl ⟨by rfl, ?_⟩) ?_ ?_; rotate_left
       ·intro w'; go_simp; with_reducible rfl
       rotate_left
       ·simp only [Act.put, sa_, sz_, ss_, i64_w, i32_w]; rfl
       refine pure_ (i := 10) (N := some 59) (v := ?_) (a' := ?_) (bitsL 19 14335) rfl rfl (any_of HT_.out (by kernel_rfl)) (fun _ _ _ h => h) (Or.inl ⟨by rfl, ?_⟩) ?_ ?_; rotate_left
       ·intro w'; go_simp; with_reducible rfl
       rotate_left
       ·simp only [Act.put, sa_, sz_, ss_, i64_w, i32_w]; rfl
       refine pure_ (i := 11) (N := some 60) (v := ?_) (a' := ?_) (bitsL 19 16383) rfl rfl (any_of HT_.out (by kernel_rfl)) (fun _ _ _ h => h) (Or.inl ⟨by rfl, ?_⟩) ?_ ?_; rotate_left
       ·intro w'; go_simp; with_reducible rfl
       rotate_left
       ·simp only [Act.put, sa_, sz_, ss_, i64_w, i32_w]; rfl
       refine take_ (i := 14) (N := some 63) (v := ?_) (a' := ?_) (bitsL 19 32767) rfl rfl (take_ofW HT_.out HW_.out (by kernel_rfl)) (fun _ _ _ h => h) (Or.inl ⟨by rfl, ?_⟩) hHeld ?_ ?_; rotate_left
       ·rintro w' ⟨s0, s1, s2⟩; go_simp; with_reducible rfl
       rotate_left
       ·simp only [Act.put, sa_, sz_, ss_, i64_w, i32_w]; rfl
       refine pure_ (i := 15) (N := some 64) (v := ?_) (a' := ?_) (bitsL 19 65535) rfl rfl (any_of HT_.out (by kernel_rfl)) (fun _ _ _ h => h) (Or.inl ⟨by rfl, ?_⟩) ?_ ?_; rotate_left
       ·intro w'; go_simp; with_reducible rfl
       rotate_left
       ·simp only [Act.put, sa_, sz_, ss_, i64_w, i32_w]; rfl
       refine pure_ (i := 16) (N := some 65) (v := ?_) (a' := ?_) (bitsL 19 131071) rfl rfl (any_of HT_.out (by kernel_rfl)) (fun _ _ _ h => h) (Or.inl ⟨by rfl, ?_⟩) ?_ ?_; rotate_left
       ·intro w'; go_simp; with_reducible rfl
       rotate_left
       ·simp only [Act.put, sa_, sz_, ss_, i64_w, i32_w]; rfl
       refine pure_ (i := 17) (N := some 66) (v := ?_) (a' := ?_) (bitsL 19 262143) rfl rfl (any_of HT_.out (by kernel_rfl)) (fun _ _ _ h => h) (Or.inl ⟨by rfl, ?_⟩) ?_ ?_; rotate_left
       ·intro w'; go_simp; with_reducible rfl
       rotate_left
       ·simp only [Act.put, sa_, sz_, ss_, i64_w, i32_w]; rfl
       refine pure_ (i := 18) (N := some 7) (v := ?_) (a' := ?_) (bitsL 19 524287) rfl rfl (any_of HT_.out (by kernel_rfl)) (fun _ _ _ h => h) (Or.inl ⟨by rfl, ?_⟩) ?_ ?_; rotate_left
       ·intro w'; go_simp; with_reducible rfl
       rotate_left
       ·simp only [Act.put, sa_, sz_, ss_, i64_w, i32_w]; rfl
       refine done_ (done_of HT_.out (by kernel_rfl)) ?_
       try go_wp2
       have n0_ := Aside0.mk (Kd.R_drew HO_6.out); have n1_ := Aside0.mk (below_drew1 HB.out); clear HO_6 HB; have HO_6 := n0_; have HB := n1_; clear n0_ n1_; have p194 : 0 ≤ (1 : Int) := (by omega)
       have q194 : 1 < (t181.length : Int) := od; obtain ⟨ad194, e194, hx194_0⟩ := Kd.at_string (Kd.R_reads' HO_6.out).2.2 1 p194 q194; obtain rfl : ad191 = ad194 := (by injection e194)
       (try simp only [show (1 : Int).toNat = 1 from rfl, Nat.reduceMul, Nat.reduceEqDiff, Go.Addr.add, ↓reduceIte] at hx194_0)
       have qi194 : (1 < t181.length) = True := eq_true (by omega)
       (try rw [show ((1 : Int)).toNat = 1 from rfl] at hx194_0)
       replace p194 := eq_true p194; replace q194 := eq_true q194; have p195 : 0 ≤ (2 : Int) := (by omega)
       have q195 : 2 < (t181.length : Int) := od; obtain ⟨ad195, e195, hx195_0⟩ := Kd.at_string (Kd.R_reads' HO_6.out).2.2 2 p195 q195; obtain rfl : ad191 = ad195 := (by injection e195)
       (try simp only [show (2 : Int).toNat = 2 from rfl, Nat.reduceMul, Nat.reduceEqDiff, Go.Addr.add, ↓reduceIte] at hx195_0)
       have qi195 : (2 < t181.length) = True := eq_true (by omega)
       (try rw [show ((2 : Int)).toNat = 2 from rfl] at hx195_0)
       replace p195 := eq_true p195; replace q195 := eq_true q195; refine start_ (n := 12) (S := fun w' => w'.cell? ⟨ad191.block, ad191.off + 1, none⟩ = some (.string (rdOf ByteArray.empty t181 1)) ∧ w'.cell? ⟨ad191.block, ad191.off + 2, none⟩ = some (.string (rdOf ByteArray.empty t181 2))) (ds := []) #[false, false, false, false, false, false, false, false, false, false, false, false] (by kernel_rfl) rfl rfl ⟨hx194_0, hx195_0⟩ (fun hHeld => ?_); refine with_tabW ew_word.tab8 ew_word.bits8 (fun HT_ HW_ => ?_)
       generalize w28.drew = w30 at HO_6 HB hx194_0 hx195_0 hHeld ⊢
       refine pure_ (i := 0) (N := some 68) (v := ?_) (a' := ?_) (bitsL 12 1) rfl rfl (any_of HT_.out (by kernel_rfl)) (fun _ _ _ h => h) (Or.inl ⟨by rfl, ?_⟩) ?_ ?_; rotate_left
       ·intro w'; go_simp; with_reducible rfl
       rotate_left
       ·simp only [Act.put, sa_, sz_, ss_, i64_w, i32_w]; rfl
       refine pure_ (i := 1) (N := some 69) (v := ?_) (a' := ?_) (bitsL 12 3) rfl rfl (any_of HT_.out (by kernel_rfl)) (fun _ _ _ h => h) (Or.inl ⟨by rfl, ?_⟩) ?_ ?_; rotate_left
       ·intro w'; go_simp; with_reducible rfl
       rotate_left
       ·simp only [Act.put, sa_, sz_, ss_, i64_w, i32_w]; rfl
       refine pure_ (i := 3) (N := some 71) (v := ?_) (a' := ?_) (bitsL 12 11) rfl rfl (any_of HT_.out (by kernel_rfl)) (fun _ _ _ h => h) (Or.inl ⟨by rfl, ?_⟩) ?_ ?_; rotate_left
       ·intro w'; go_simp; with_reducible rfl
       rotate_left
       ·simp only [Act.put, sa_, sz_, ss_, i64_w, i32_w]; rfl
       refine pure_ (i := 4) (N := some 72) (v := ?_) (a' := ?_) (bitsL 12 27) rfl rfl (any_of HT_.out (by kernel_rfl)) (fun _ _ _ h => h) (Or.inl ⟨by rfl, ?_⟩) ?_ ?_; rotate_left
       ·intro w'; go_simp; with_reducible rfl
       rotate_left
       ·simp only [Act.put, sa_, sz_, ss_, i64_w, i32_w]; rfl
       refine take_ (i := 2) (N := some 70) (v := ?_) (a' := ?_) (bitsL 12 31) rfl rfl (take_ofW HT_.out HW_.out (by kernel_rfl)) (fun _ _ _ h => h) (Or.inl ⟨by rfl, ?_⟩) hHeld ?_ ?_; rotate_left
       ·rintro w' ⟨s0, s1⟩; go_simp; with_reducible rfl
       rotate_left
       ·simp only [Act.put, sa_, sz_, ss_, i64_w, i32_w]; rfl
       refine take_ (i := 5) (N := some 73) (v := ?_) (a' := ?_) (bitsL 12 63) rfl rfl (take_ofW HT_.out HW_.out (by kernel_rfl)) (fun _ _ _ h => h) (Or.inl ⟨by rfl, ?_⟩) hHeld ?_ ?_; rotate_left
       ·rintro w' ⟨s0, s1⟩; go_simp; with_reducible rfl
       rotate_left
       ·simp only [Act.put, sa_, sz_, ss_, i64_w, i32_w]; rfl
       refine one_ (i := 6) (N := some 74) (bitsL 12 127) rfl rfl (one_of HT_.out (by kernel_rfl)) (by decide) (fun K hK => ?_); refine goes_ Tryz.func134 (by kernel_rfl) rfl #[.string (rdOf ByteArray.empty t181 1), .string (rdOf ByteArray.empty t181 2)] (by rfl) rfl rfl am ?_; with_reducible refine (ew_octets.calls kj4 (rdOf ByteArray.empty t181 1) (rdOf ByteArray.empty t181 2) t196 t197 _ A26.out).mono ?_
       rintro e w31 ⟨rfl, hb⟩; have HS0_ := (hb.cell (World.block_lt_of_cell? _ _ (hHeld.1))).trans (hHeld.1); have HS1_ := (hb.cell (World.block_lt_of_cell? _ _ (hHeld.2))).trans (hHeld.2); refine ⟨_, rfl, ?_⟩; have n0_ := Aside0.mk (Kd.R_below (ra HO_6.out) hb); have n1_ := Aside0.mk (below_step bw hb); clear HO_6 HB; have HO_6 := n0_; have HB := n1_; clear n0_ n1_
       (try clear hb)
       (try clear hb2)
       (try clear hk)
       (try clear hi)
       refine hK.out _ _ ⟨HS0_, HS1_⟩ (fun hHeld => ?_); clear hK K; refine norm_ (a' := ?_) ?_ ?_; rotate_left
       ·show Act.put _ (some 74) _ = _
        simp only [Act.put, sa_, sz_, ss_, i64_w, i32_w]; rfl
       refine pure_ (i := 7) (N := some 67) (v := ?_) (a' := ?_) (bitsL 12 255) rfl rfl (any_of HT_.out (by kernel_rfl)) (fun _ _ _ h => h) (Or.inl ⟨by rfl, ?_⟩) ?_ ?_; rotate_left
       ·intro w'; go_simp; with_reducible rfl
       rotate_left
       ·simp only [Act.put, sa_, sz_, ss_, i64_w, i32_w]; rfl
       refine pure_ (i := 8) (N := some 75) (v := ?_) (a' := ?_) (bitsL 12 511) rfl rfl (any_of HT_.out (by kernel_rfl)) (fun _ _ _ h => h) (Or.inl ⟨by rfl, ?_⟩) ?_ ?_; rotate_left
       ·intro w'; go_simp; with_reducible rfl
       rotate_left
       ·simp only [Act.put, sa_, sz_, ss_, i64_w, i32_w]; rfl
       refine pure_ (i := 9) (N := some 76) (v := ?_) (a' := ?_) (bitsL 12 1023) rfl rfl (any_of HT_.out (by kernel_rfl)) (fun _ _ _ h => h) (Or.inl ⟨by rfl, ?_⟩) ?_ ?_; rotate_left
       ·intro w'; go_simp; with_reducible rfl
       rotate_left
       ·simp only [Act.put, sa_, sz_, ss_, i64_w, i32_w]; rfl
       refine pure_ (i := 10) (N := some 8) (v := ?_) (a' := ?_) (bitsL 12 2047) rfl rfl (any_of HT_.out (by kernel_rfl)) (fun _ _ _ h => h) (Or.inl ⟨by rfl, ?_⟩) ?_ ?_; rotate_left
       ·intro w'; go_simp; with_reducible rfl
       rotate_left
       ·simp only [Act.put, sa_, sz_, ss_, i64_w, i32_w]; rfl
       refine pure_ (i := 11) (N := some 5) (v := ?_) (a' := ?_) (bitsL 12 4095) rfl rfl (any_of HT_.out (by kernel_rfl)) (fun _ _ _ h => h) (Or.inl ⟨by rfl, ?_⟩) ?_ ?_; rotate_left
       ·intro w'; go_simp; with_reducible rfl
       rotate_left
       ·simp only [Act.put, sa_, sz_, ss_, i64_w, i32_w]; rfl
       refine done_ (done_of HT_.out (by kernel_rfl)) ?_
       go_upto_region 9 with (fail)
       go_cut [82] (fun v82 wc => ∃ (kq : Nat) (x82_26 : Bool), v82 = .bool x82_26 ∧ Aside0 (ew_word.j1 kq t181 (wrap64 ((wrap64 ((wrap64 ((wrap64 ((wrap64 ((wrap64 (2 + ((rdOf ByteArray.empty t181 0).size : Int))) + 1)) + ((rdOf ByteArray.empty t181 1).size : Int))) + 1)) + ((rdOf ByteArray.empty t181 2).size : Int))) + 2)) t196 x82_26 = some (r1, r2)) ∧ Aside0 (kq ≤ kj4) ∧ Aside0 (Kd.R Kd.string 9 wc w.heap.size (fun _ => True) (.slice (some ad191) t181.length co29) t181) ∧ Aside0 (Below w.heap.size w wc))
       case first =>
        have H := HC27.out; clear HC27
        by_cases c32 : (wrap64 ((wrap64 ((wrap64 ((wrap64 ((wrap64 ((wrap64 (2 + ((rdOf ByteArray.empty t181 0).size : Int))) + 1)) + ((rdOf ByteArray.empty t181 1).size : Int))) + 1)) + ((rdOf ByteArray.empty t181 2).size : Int))) + 2)) > 75
        ·rw [if_pos c32] at H; have c32b0 : decide (75 < (wrap64 ((wrap64 ((wrap64 ((wrap64 ((wrap64 ((wrap64 (2 + ((rdOf ByteArray.empty t181 0).size : Int))) + 1)) + ((rdOf ByteArray.empty t181 1).size : Int))) + 1)) + ((rdOf ByteArray.empty t181 2).size : Int))) + 2))) = true := decide_eq_true c32; clear c32
         (first | rw [c32b0] | (simp only [i64_w, i32_w]; rw [c32b0]) | skip)
         have H' := Aside0.mk H; clear H
         go_wp2
         go_meet
         case rel => exact ⟨_, (true), cl, H', ⟨by have := HJ4.out; first | omega | exact Nat.le_refl _⟩, ⟨ra HO_6.out⟩, ⟨bw⟩⟩
        rw [if_neg c32] at H; have c32b0 : decide (75 < (wrap64 ((wrap64 ((wrap64 ((wrap64 ((wrap64 ((wrap64 (2 + ((rdOf ByteArray.empty t181 0).size : Int))) + 1)) + ((rdOf ByteArray.empty t181 1).size : Int))) + 1)) + ((rdOf ByteArray.empty t181 2).size : Int))) + 2))) = false := decide_eq_false c32; clear c32
        (first | rw [c32b0] | (simp only [i64_w, i32_w]; rw [c32b0]) | skip)
        have H' := Aside0.mk H; clear H
        go_wp2
        go_meet
        case rel => exact ⟨_, (!t197), cl, H', ⟨by have := HJ4.out; first | omega | exact Nat.le_refl _⟩, ⟨ra HO_6.out⟩, ⟨bw⟩⟩
       case rest =>
        clear HC27 c23b0 c23b1 c24b0 c24b1 c25b0 c25b1 hx191_0 hx192_0 hx193_0 hx194_0 hx195_0 p191 p192 p193 p194 p195 q191 q192 q193 q194 q195; obtain ⟨kq, x82_26, rfl, HA, HJ26, HO_6, HB⟩ := hcut; cases kq with
        | zero => exact absurd HA.out (by simp [ew_word.j1])
        | succ kj26 =>
         have H := HA.out; clear HA; simp only [ew_word.j1] at H
         by_cases c33 : x82_26 = true
         ·subst c33; rw [if_pos rfl] at H; simp only [Option.some.injEq, Prod.mk.injEq] at H; obtain ⟨rfl, rfl⟩ := H
          go_wp2
          go_ret2
          exact ⟨ew, bw⟩
         replace c33 := Bool.eq_false_iff.mpr c33; subst c33; rw [if_neg nft] at H
         by_cases c34 : 0 < (t181.length : Int)
         ·rw [if_pos c34] at H; have c34b0 := decide_eq_true c34; have c34b1 : decide (0 < t181.length) = true := decide_eq_true (by omega); clear c34; replace H := Option.bind_eq_some_iff.mp H; obtain ⟨⟨t199, t200⟩, A350, H⟩ := H; replace H : (if t200 = true then (some (t199, (wrap64 ((wrap64 ((wrap64 ((wrap64 ((wrap64 ((wrap64 (2 + ((rdOf ByteArray.empty t181 0).size : Int))) + 1)) + ((rdOf ByteArray.empty t181 1).size : Int))) + 1)) + ((rdOf ByteArray.empty t181 2).size : Int))) + 2)))) else (some ((⟨#[]⟩ : ByteArray), 0))) = some (r1, r2) := H; have A35 := Aside0.mk A350; clear A350
          by_cases c36 : t200 = true
          ·subst c36; rw [if_pos rfl] at H; simp only [Option.some.injEq, Prod.mk.injEq] at H; obtain ⟨rfl, rfl⟩ := H; have p198 : 0 ≤ (0 : Int) := (by omega)
           have q198 : 0 < (t181.length : Int) := od; obtain ⟨ad198, e198, hx198_0⟩ := Kd.at_string (Kd.R_reads' HO_6.out).2.2 0 p198 q198; obtain rfl : ad191 = ad198 := (by injection e198)
           have qi198 : (0 < t181.length) = True := eq_true (by omega)
           (try rw [show ((0 : Int)).toNat = 0 from rfl] at hx198_0)
           (try rw [Addr.add_zero'] at hx198_0)
           replace p198 := eq_true p198; replace q198 := eq_true q198
           go_wp2_with (first | ((with_reducible refine gate_callee (f := 135) rfl ?_); refine goesL_ (some 88) rfl rfl Tryz.func135 (by kernel_rfl) rfl #[.string (rdOf ByteArray.empty t181 0), .string t196] rfl am ?_; (with_reducible refine (ew_signs.calls (hG := by first | exact hG | exact Glob.below hG (by first | exact HB.out | (repeat (first | (with_reducible first | exact HB.out | apply below_alloc | apply pw_below_drewN | apply below_drew1) | exact HB.out))) | exact Glob.drawn hG (d0)) (rdOf ByteArray.empty t181 0) t196 t199 true _ A35.out).mono ?_); rintro e w37 ⟨rfl, hb⟩; refine ⟨_, rfl, ?_⟩; have n0_ := Aside0.mk (Kd.R_below (ra HO_6.out) hb); have n1_ := Aside0.mk (below_step bw hb); clear HO_6; clear HB; have HO_6 := n0_; have HB := n1_; clear n0_ n1_; (try clear hb); (try clear hb2); (try clear hk); (try clear hi)))
           go_ret2
           exact ⟨ew, bw⟩
          replace c36 := Bool.eq_false_iff.mpr c36; subst c36; rw [if_neg nft] at H; simp only [Option.some.injEq, Prod.mk.injEq] at H; obtain ⟨rfl, rfl⟩ := H; have p198 : 0 ≤ (0 : Int) := (by omega)
          have q198 : 0 < (t181.length : Int) := od; obtain ⟨ad198, e198, hx198_0⟩ := Kd.at_string (Kd.R_reads' HO_6.out).2.2 0 p198 q198; obtain rfl : ad191 = ad198 := (by injection e198)
          have qi198 : (0 < t181.length) = True := eq_true (by omega)
          (try rw [show ((0 : Int)).toNat = 0 from rfl] at hx198_0)
          (try rw [Addr.add_zero'] at hx198_0)
          replace p198 := eq_true p198; replace q198 := eq_true q198
          go_wp2_with (first | ((with_reducible refine gate_callee (f := 135) rfl ?_); refine goesL_ (some 88) rfl rfl Tryz.func135 (by kernel_rfl) rfl #[.string (rdOf ByteArray.empty t181 0), .string t196] rfl am ?_; (with_reducible refine (ew_signs.calls (hG := by first | exact hG | exact Glob.below hG (by first | exact HB.out | (repeat (first | (with_reducible first | exact HB.out | apply below_alloc | apply pw_below_drewN | apply below_drew1) | exact HB.out))) | exact Glob.drawn hG (d0)) (rdOf ByteArray.empty t181 0) t196 t199 false _ A35.out).mono ?_); rintro e w38 ⟨rfl, hb⟩; refine ⟨_, rfl, ?_⟩; have n0_ := Aside0.mk (Kd.R_below (ra HO_6.out) hb); have n1_ := Aside0.mk (below_step bw hb); clear HO_6; clear HB; have HO_6 := n0_; have HB := n1_; clear n0_ n1_; (try clear hb); (try clear hb2); (try clear hk); (try clear hi)))
          go_ret2
          exact ⟨ew, bw⟩
         rw [if_neg c34] at H; exact absurd H (by simp)
      rw [if_neg c25] at H; exact absurd H (by simp)
     rw [if_neg c24] at H; exact absurd H (by simp)
    rw [if_neg c23] at H; exact absurd H (by simp)
 replace c3 := Bool.eq_false_iff.mpr c3; subst c3; rw [if_neg nft] at H; simp only [Option.some.injEq, Prod.mk.injEq] at H; obtain ⟨rfl, rfl⟩ := H
 go_enter Tryz.func95, Tryz.ntmps95
 go_wp2_with (first | ((with_reducible refine gate_callee (f := 130) rfl ?_); refine goesL_ (some 12) rfl rfl Tryz.func130 (by kernel_rfl) rfl #[.string a0, .string (⟨#[61, 63]⟩ : ByteArray)] rfl am ?_; (with_reducible refine (strings_CutPrefix.calls a0 (⟨#[61, 63]⟩ : ByteArray) t179 false _ A2.out).mono ?_); rintro e w' ⟨rfl, ⟨nd, rfl⟩⟩; refine ⟨_, rfl, ?_⟩))
 go_ret2
 exact ⟨ew, bw⟩

end Go.Proofs.YtcndmhpeolbepaaGreatDoor.Fn
namespace Go.Proofs.YtcndmhpeolbepaaGreatDoor.Fn
attribute [local go_sem] max2_int min2_int max_two min_two max_three min_three max_four min_four
def mbx_stops.f (a0_0 : Int) (a0_1 : ByteArray) : Option (Bool) := if a0_0 = 3 then ((strings_Contains.f (⟨#[44, 59, 58, 60, 62]⟩ : ByteArray) a0_1).bind fun t493 => (some t493)) else (some false)
set_option maxRecDepth 100000 in
theorem mbx_stops.calls (a0_0 : Int) (a0_1 : ByteArray) (r : Bool) (w : World) (hG : Glob w) (h : mbx_stops.f a0_0 a0_1 = some r) :
  Calls Tryz.prog 212 #[.agg #[.int .i64 a0_0, .string a0_1]] w fun e w' => e = .returned (.bool r) ∧ Below w.heap.size w w' := by
 have hu194 := Tryz.underlying194; have HB := Aside0.mk (Below.refl w.heap.size w); have H : (if a0_0 = 3 then ((strings_Contains.f (⟨#[44, 59, 58, 60, 62]⟩ : ByteArray) a0_1).bind fun t493 => (some t493)) else (some false)) = some r := h; clear h
 by_cases c2 : a0_0 = 3
 ·rw [if_pos c2] at H; have c2b0 := beq_iff_eq.mpr c2; have c2b1 := bne_eq_false_iff_eq.mpr c2; clear c2; replace H := Option.bind_eq_some_iff.mp H; obtain ⟨t493, A30, H⟩ := H; have A3 := Aside0.mk A30; clear A30; obtain rfl := Option.some.inj H
  go_enter Tryz.func212, Tryz.ntmps212
  go_wp2_with (first | ((with_reducible refine gate_dst (N := 1) rfl ?_); refine box_event ?hg (N := 1) ?hd (cs := #[.int .i64 a0_0, .string a0_1]) (t := 194) ?hr ?_; (case hd => rfl); (case hg => rfl); (case hr => first | (go_simp; done) | (go_simp; rfl)); intro gb492 hg w4 hbox hb; have n0_ := Aside0.mk (below_step bw hb); have n1_ := Aside0.mk (hbox); have n2_ := Aside0.mk ((by rw [hg]; exact (below_size bw) : w.heap.size ≤ gb492)); have n3_ := Aside0.mk ((by rw [hg]; exact (below_size bw) : w.heap.size ≤ gb492)); clear HB; have HB := n0_; have BK492 := n1_; have GW492 := n2_; have GE492 := n3_; clear n0_ n1_ n2_ n3_; clear hb hbox hg; obtain ⟨hcz5_0, hcz5_1⟩ := ce2 BK492; obtain ⟨hfz5_0, hfz5_1⟩ := fz2 BK492) | (go_at_call 58; (with_reducible refine (strings_Contains.calls (hG := by first | exact hG | exact Glob.below hG (by first | exact HB.out | (repeat (first | (with_reducible first | exact HB.out | apply below_alloc | apply pw_below_drewN | apply below_drew1 | refine below_set ?_ GE492.out) | exact HB.out))) | exact Glob.drawn hG (d0)) (⟨#[44, 59, 58, 60, 62]⟩ : ByteArray) a0_1 t493 _ A3.out).mono ?_); rintro e w6 ⟨rfl, hb⟩; have n0_ := Aside0.mk (blk_below (g := gb492) (o := .cells #[.int .i64 a0_0, .string a0_1] 194 (0, 0)) bk hb); have n1_ := Aside0.mk (below_step bwS hb); clear BK492; clear HB; have BK492 := n0_; have HB := n1_; clear n0_ n1_; (try clear hb); (try clear hb2); (try clear hk); (try clear hi)))
  go_ret
  exact ⟨ew, bwS⟩
 rw [if_neg c2] at H; have c2b0 := beq_eq_false_iff_ne.mpr c2; have c2b1 := bne_iff_ne.mpr c2; obtain rfl := Option.some.inj H
 go_enter Tryz.func212, Tryz.ntmps212
 go_wp2_with (first | ((with_reducible refine gate_dst (N := 1) rfl ?_); refine box_event ?hg (N := 1) ?hd (cs := #[.int .i64 a0_0, .string a0_1]) (t := 194) ?hr ?_; (case hd => rfl); (case hg => rfl); (case hr => first | (go_simp; done) | (go_simp; rfl)); intro gb492 hg w7 hbox hb; have n0_ := Aside0.mk (below_step bw hb); have n1_ := Aside0.mk (hbox); have n2_ := Aside0.mk ((by rw [hg]; exact (below_size bw) : w.heap.size ≤ gb492)); have n3_ := Aside0.mk ((by rw [hg]; exact (below_size bw) : w.heap.size ≤ gb492)); clear HB; have HB := n0_; have BK492 := n1_; have GW492 := n2_; have GE492 := n3_; clear n0_ n1_ n2_ n3_; clear hb hbox hg; obtain ⟨hcz8_0, hcz8_1⟩ := ce2 BK492; obtain ⟨hfz8_0, hfz8_1⟩ := fz2 BK492))
 go_ret
 exact ⟨ew, bwS⟩
end Go.Proofs.YtcndmhpeolbepaaGreatDoor.Fn
set_option linter.unusedVariables false
namespace Go.Proofs.YtcndmhpeolbepaaGreatDoor.Fn
open Go.RowKit Go.Shelf

/-! strings.SplitSeq: its iterator keeps what is left of the text in a cell of its own. -/

def cutsN (find : ByteArray → Int) (L : Nat) : Nat → ByteArray → List ByteArray
 | 0, s => [s]
 | k + 1, s => if find s < 0 then [s] else s.extract 0 (find s).toNat :: cutsN find L k (s.extract ((find s).toNat + L) s.size)
def cuts (find : ByteArray → Int) (L : Nat) (s : ByteArray) : List ByteArray := cutsN find L s.size s

structure Finds (find : ByteArray → Int) (L : Nat) : Prop where
 pos : 1 ≤ L
 fits : ∀ s, 0 ≤ find s → (find s).toNat + L ≤ s.size

theorem cutsN_more {find : ByteArray → Int} {L : Nat} (hf : Finds find L) : ∀ (k : Nat) (s : ByteArray), s.size ≤ k → cutsN find L k s = cutsN find L (k + 1) s
 | 0, s, h => by
  have : find s < 0 := by
   rcases Int.lt_or_le (find s) 0 with h0 | h0
   ·exact h0
   have := hf.fits s h0; have := hf.pos; omega
  simp [cutsN, this]
 | k + 1, s, h => by
  rw [cutsN, cutsN]
  by_cases h0 : find s < 0
  ·rw [if_pos h0, if_pos h0]
  rw [if_neg h0, if_neg h0]
  have h1 := hf.fits s (by omega)
  have h2 := hf.pos
  rw [cutsN_more hf k _ (by simp only [ByteArray.size_extract]; omega)]
theorem cutsN_enough {find : ByteArray → Int} {L : Nat} (hf : Finds find L) (k : Nat) (s : ByteArray) (h : s.size ≤ k) : cutsN find L k s = cuts find L s := by
 unfold cuts
 obtain ⟨d, rfl⟩ : ∃ d, k = s.size + d := ⟨k - s.size, by omega⟩
 clear h
 induction d with
 | zero => rfl
 | succ d ih => rw [← Nat.add_assoc, ← cutsN_more hf _ _ (by omega)]; exact ih
theorem cuts_last {find : ByteArray → Int} {L : Nat} (hf : Finds find L) (s : ByteArray) (h : find s < 0) : cuts find L s = [s] := by
 rw [← cutsN_enough hf (s.size + 1) s (by omega), cutsN, if_pos h]
theorem cuts_more {find : ByteArray → Int} {L : Nat} (hf : Finds find L) (s : ByteArray) (h : ¬ find s < 0) : cuts find L s = s.extract 0 (find s).toNat :: cuts find L (s.extract ((find s).toNat + L) s.size) := by
 have h1 := hf.fits s (by omega)
 have h2 := hf.pos
 rw [← cutsN_enough hf (s.size + 1) s (by omega), cutsN, if_neg h, cutsN_enough hf _ _ (by simp only [ByteArray.size_extract]; omega)]

def KeptD (D : Nat → Prop) (A B : World) : Prop := ∀ b, D b → B.heap[b]? = A.heap[b]?
theorem KeptD.refl (D : Nat → Prop) (A : World) : KeptD D A A := fun _ _ => rfl
theorem KeptD.trans {D : Nat → Prop} {A B C : World} (h : KeptD D A B) (k : KeptD D B C) : KeptD D A C := fun b hb => (k b hb).trans (h b hb)
theorem KeptD.cell {D : Nat → Prop} {A B : World} (h : KeptD D A B) {p : Addr} (hp : D p.block) : B.cell? p = A.cell? p := World.cell?_of_block (h p.block hp)
theorem KeptD.frozen {D : Nat → Prop} {A B : World} (h : KeptD D A B) {p : Addr} (hp : D p.block) : B.frozen? p = A.frozen? p := World.frozen?_of_block (h p.block hp)
theorem KeptD.of_below {D : Nat → Prop} {n : Nat} {A B : World} (h : Below n A B) (hD : ∀ b, D b → b < n) : KeptD D A B := fun b hb => h.block b (hD b hb)
theorem KeepsOthers.of_below {A B : World} (h : Below A.heap.size A B) : KeepsOthers A B := ⟨h.size, fun k o hk _ => (h.block k (Array.getElem?_eq_some_iff.1 hk).1).trans hk⟩

def SplitGives (n : Nat) (bs : Nat) (D : Nat → Prop) (xs : List ByteArray) (w : World) : Prop :=
 ∀ (l : Nat) (J Jx : List ByteArray → World → Prop) (W : World), Below w.heap.size w W → AbidesFrom W.heap.size J → AbidesFrom W.heap.size Jx →
  (∀ s A v, J s A → J s (A.setCell ⟨bs, 0, none⟩ v)) →
  (∀ pre x W1, J pre W1 → pre.length < xs.length → pre ++ [x] <+: xs → YieldAt Fence.wide (n - 1) Tryz.prog l #[.string x] W1 fun e W' =>
   (e = .returned (.bool true) ∧ J (pre ++ [x]) W' ∧ KeptD D W1 W') ∨ (e = .returned (.bool false) ∧ Jx (pre ++ [x]) W')) →
  J [] W →
  CallsIn Fence.wide n Tryz.prog 171 (#[.func (.yield l) #[] #[]] ++ #[.pointer (some ⟨bs + 1, 0, none⟩), .pointer (some ⟨bs, 0, none⟩), .pointer (some ⟨bs + 2, 0, none⟩)]) W fun e W' =>
   (∃ v, e = .returned v) ∧ (J xs W' ∨ ∃ pre, pre <+: xs ∧ Jx pre W')

attribute [local go_sem] Oper.semAt_some

def leftIn (bs : Nat) (W : World) : Nat := match W.cell? ⟨bs, 0, none⟩ with | some (.string s) => s.size + 1 | _ => 0
theorem leftIn_eq {bs : Nat} {W : World} {s : ByteArray} (h : W.cell? ⟨bs, 0, none⟩ = some (.string s)) : leftIn bs W = s.size + 1 := by simp [leftIn, h]

set_option maxRecDepth 100000 in
set_option maxHeartbeats 4000000 in
theorem split_gives (n : Nat) (hn : 1 ≤ n) (bs : Nat) (D : Nat → Prop) (hD : ∀ b, bs ≤ b → b ≤ bs + 2 → D b) (s sep : ByteArray) (find : ByteArray → Int) (hf : Finds find sep.size) (hL : sep.size < 4611686018427387904) (hs : s.size < 4611686018427387904) (w : World) (hw : ∀ b, D b → b < w.heap.size)
  (hidx : ∀ (t : ByteArray) (W : World), t.size ≤ s.size → (∀ b, D b → b ≠ bs → W.heap[b]? = w.heap[b]?) → Calls Tryz.prog 98 #[.string t, .string sep] W fun e w' => e = .returned (.int .i64 (find t)) ∧ w' = W)
  (h0 : w.cell? ⟨bs, 0, none⟩ = some (.string s)) (z0 : w.frozen? ⟨bs, 0, none⟩ = false) (h1 : w.cell? ⟨bs + 1, 0, none⟩ = some (.string sep)) (h2 : w.cell? ⟨bs + 2, 0, none⟩ = some (.int .i64 0)) :
  SplitGives n bs D (cuts find sep.size s) w := by
 intro l J Jx W hW hJ hJx hJs hY hJ0
 have kW : KeptD D w W := KeptD.of_below hW hw
 have c0 := (kW.cell (p := ⟨bs, 0, none⟩) (hD _ (by simp) (by simp))).trans h0
 have d0 := (kW.frozen (p := ⟨bs, 0, none⟩) (hD _ (by simp) (by simp))).trans z0
 have c1 := (kW.cell (p := ⟨bs + 1, 0, none⟩) (hD _ (by simp) (by simp))).trans h1
 have c2 := (kW.cell (p := ⟨bs + 2, 0, none⟩) (hD _ (by simp) (by simp))).trans h2
 refine callsIn_of_wp Tryz.func171 rfl trivial ?_ rfl
 simp only [Tryz.ntmps171, List.size_toArray, List.length_cons, List.length_nil, Nat.reduceAdd, Nat.reduceSub, Array.replicate_succ, Array.replicate_zero, List.push_toArray, List.append_toArray, List.nil_append, List.cons_append]
 have hpos := hf.pos
 have hsep : ((sep.size : Int) == 0) = false := by rw [beq_eq_false_iff_ne]; omega
 gi_wp2
 gi_loopw [7, 8] (fun p7 p8 wr => ∃ (pre : List ByteArray) (cur : ByteArray), cuts find sep.size s = pre ++ cuts find sep.size cur ∧ cur.size ≤ s.size ∧ J pre wr ∧ wr.cell? ⟨bs, 0, none⟩ = some (.string cur) ∧ wr.frozen? ⟨bs, 0, none⟩ = false ∧ (∀ b, D b → b ≠ bs → wr.heap[b]? = w.heap[b]?))
  (fun p7 p8 wr => leftIn bs wr)
 case atStart =>
  exact ⟨[], s, rfl, Nat.le_refl _, hJ0, c0, d0, fun b hb _ => kW b hb⟩
 case round =>
  obtain ⟨pre, cur, hcut, hcs, hJ1, e0, f0, hK⟩ := hrel
  have e1 : wr.cell? ⟨bs + 1, 0, none⟩ = some (.string sep) := (World.cell?_of_block (hK (bs + 1) (hD _ (by omega) (by omega)) (by omega))).trans h1
  have e2 : wr.cell? ⟨bs + 2, 0, none⟩ = some (.int .i64 0) := (World.cell?_of_block (hK (bs + 2) (hD _ (by omega) (by omega)) (by omega))).trans h2
  by_cases hneg : find cur < 0
  ·have hcl := cuts_last hf cur hneg
   rw [hcl] at hcut
   obtain ⟨fn, tmps, assign, body, hy, hR⟩ := hY pre cur wr hJ1 (by rw [hcut]; simp) (by rw [hcut]; exact List.prefix_refl _)
   gi_wp2_with (refine ⟨trivial, ?_⟩; gi_at_call 98; refine (callsIn_wide.2 (hidx cur wr hcs hK)).mono ?_; rintro e w' ⟨rfl, rfl⟩)
   refine hR.mono ?_
   rintro e W3 (⟨rfl, hJ3, hk3⟩ | ⟨rfl, hJx3⟩)
   ·gi_wp2
    go_end0
    exact ⟨⟨_, rfl⟩, .inl (by rw [hcut]; exact hJ3)⟩
   gi_wp2
   go_end0
   exact ⟨⟨_, rfl⟩, .inr ⟨_, by rw [hcut]; exact List.prefix_refl _, hJx3⟩⟩
  have hcl := cuts_more hf cur hneg
  rw [hcl] at hcut
  obtain ⟨N, hN⟩ : ∃ N : Nat, find cur = (N : Int) := ⟨(find cur).toNat, by omega⟩
  have hfit := hf.fits cur (by omega)
  rw [hN] at hfit
  rw [hN] at hcut
  simp only [Int.toNat_natCast] at hfit hcut
  obtain ⟨fn, tmps, assign, body, hy, hR⟩ := hY pre (cur.extract 0 N) wr hJ1 (by rw [hcut]; simp) (by rw [hcut]; exact (List.prefix_append_right_inj pre).2 (by simp))
  have x1 : wrap64 (N : Int) = N := Pl.wrap_id (by omega) (by omega)
  have x2 : wrap64 ((N : Int) + (sep.size : Int)) = ((N + sep.size : Nat) : Int) := by rw [← Int.natCast_add]; exact Pl.wrap_id (by omega) (by omega)
  have x3 : ((N : Int) < 0) = False := eq_false (by omega)
  have x4 : ((N : Int) ≤ (cur.size : Int)) = True := eq_true (by omega)
  have x5 : (0 ≤ (N : Int)) = True := eq_true (by omega)
  have x6 : (((N + sep.size : Nat) : Int) ≤ (cur.size : Int)) = True := eq_true (by omega)
  have x7 : (0 ≤ ((N + sep.size : Nat) : Int)) = True := eq_true (by omega)
  have hidx1 := hidx cur wr hcs hK
  rw [hN] at hidx1
  gi_wp2_with (refine ⟨trivial, ?_⟩; gi_at_call 98; refine (callsIn_wide.2 hidx1).mono ?_; clear hidx1; rintro e w' ⟨rfl, rfl⟩)
  refine hR.mono ?_
  rintro e W3 (⟨rfl, hJ3, hk3⟩ | ⟨rfl, hJx3⟩)
  ·have g0 := (hk3.cell (p := ⟨bs, 0, none⟩) (hD _ (by simp) (by simp))).trans e0
   have g1 := (hk3.cell (p := ⟨bs + 1, 0, none⟩) (hD _ (by simp) (by simp))).trans e1
   have gz := (hk3.frozen (p := ⟨bs, 0, none⟩) (hD _ (by simp) (by simp))).trans f0
   gi_wp2
   go_roundw
   case rel =>
    refine ⟨pre ++ [cur.extract 0 N], cur.extract (N + sep.size) cur.size, by rw [hcut]; simp, by simp only [ByteArray.size_extract]; omega, hJs _ _ _ hJ3, ?_, by rw [World.frozen?_setCell]; exact gz, ?_⟩
    ·exact World.cell?_setCell_same' _ _ _ (by rw [g0]; rfl)
    intro b hb hne
    rw [Below.heap_setCell _ _ _ _ (by simpa using hne), hk3 b hb]
    exact hK b hb hne
   case measure =>
    rw [leftIn_eq (World.cell?_setCell_same' _ _ _ (by rw [g0]; rfl)), leftIn_eq e0]
    simp only [ByteArray.size_extract]
    omega
  gi_wp2
  refine bodyPost_ret (results_none rfl _ _ _) rfl ?_
  exact ⟨⟨_, rfl⟩, .inr ⟨_, by rw [hcut]; exact (List.prefix_append_right_inj pre).2 (by simp), hJx3⟩⟩

def roundPost (D : Nat → Prop) (I : List ByteArray → World → Prop) (Ix : Code → List ByteArray → World → Prop) (xs : List ByteArray) (W : World) : Exit → Act → World → Prop
 | .normal, _, W' => KeepsOthers W W' ∧ KeptD D W W' ∧ I xs W'
 | .ret, _, W' => KeepsOthers W W' ∧ Ix .ret xs W'
 | .exit id, _, W' => KeepsOthers W W' ∧ Ix (.exit id) xs W'
 | .goto t, _, W' => KeepsOthers W W' ∧ Ix (.goto t) xs W'
 | .panic _, _, _ => False
 | .outgrown, _, _ => False

set_option maxHeartbeats 2000000 in
theorem split_range {n : Nat} (h1 : 1 ≤ n) {g : Operand} {p : Tmp} {assign body : Code} {Q : Exit → Act → World → Prop} {a : Act} {w : World} {bs : Nat} {D : Nat → Prop} {xs : List ByteArray}
  (hg : a.eval g = .func (.func 171) #[] #[.pointer (some ⟨bs + 1, 0, none⟩), .pointer (some ⟨bs, 0, none⟩), .pointer (some ⟨bs + 2, 0, none⟩)])
  (hseq : SplitGives (n - 1) bs D xs w) (hD : ∀ b, D b → b < w.heap.size)
  (I : List ByteArray → World → Prop) (Ix : Code → List ByteArray → World → Prop) (hI : OwnFrom w.heap.size I) (hIx : ∀ c, OwnFrom w.heap.size (Ix c)) (hIs : ∀ s A v, I s A → I s (A.setCell ⟨bs, 0, none⟩ v)) (h0 : I [] w) (a₁ : ByteArray → Act)
  (hassign : ∀ (l : Nat) (x : ByteArray) (W : World) (K : Act → World → Prop), K (a₁ x) W →
   assign.wpIn (Fence.wide.inRound l) (n - 1 - 1) Tryz.prog (Exit.then K (fun _ _ _ => False)) { tmps := ((#[p] : Array Tmp).zip #[Value.string x]).foldl (fun t (p, v) => t.setIfInBounds p v) a.tmps, defers := [] } W)
  (hbody : ∀ (l : Nat) (pre : List ByteArray) (x : ByteArray) (W : World), I pre W → pre ++ [x] <+: xs → body.wpIn (Fence.wide.inRound l) (n - 1 - 1) Tryz.prog (roundPost D I Ix (pre ++ [x]) W) (a₁ x) W)
  (hdone : ∀ (d : Nat) (W : World), w.heap.size ≤ d → I xs W → W.heap[d]? = some (.deferred (some [])) → Q .normal { a with defers := { target := .collected d, args := #[] } :: a.defers } W)
  (hstop : ∀ (d : Nat) (c : Code) (pre : List ByteArray) (W : World), w.heap.size ≤ d → pre <+: xs → Ix c pre W → W.heap[d]? = some (.deferred (some [])) → c.wpIn Fence.wide n Tryz.prog Q { a with defers := { target := .collected d, args := #[] } :: a.defers } W) :
  (Code.rangeFunc g #[p] assign body).wpIn Fence.wide n Tryz.prog Q a w := by
 refine wpIn_rangeFunc ?_
 intro fn hfn
 -- the loop's record, by its state and its pending jump
 let R : LoopState → Option Code → Loop := fun st pe => { state := st, pending := pe, fn, tmps := a.tmps, params := #[p], assign, body, defers := w.heap.size }
 have putKept : ∀ (W : World) (l : Nat) (o : Obj), w.heap.size ≤ l → KeptD D W (W.putObj l o) := fun W l o hl b hb => World.putObj_heap_other (by have := hD b hb; omega)
 let d := w.heap.size
 let W1 := (w.alloc (.deferred (some []))).alloc (.loop (R .ready none))
 have hLoop : W1.heap[d + 1]? = some (.loop (R .ready none)) := by
  have := World.alloc_heap_new (w.alloc (.deferred (some []))) (.loop (R .ready none)); rwa [World.size_alloc] at this
 have hDef : W1.heap[d]? = some (.deferred (some [])) := (Below.heap_alloc _ _ _ (by simp [d])).trans (World.alloc_heap_new w _)
 have hW1 : Below w.heap.size w W1 := ((Below.refl _ w).alloc (Nat.le_refl _) _).alloc (by simp) _
 have size1 : W1.heap.size = d + 2 := by simp [W1, d]
 refine ⟨d + 1, [{ target := .collected d, args := #[] }], W1, { target := .fn (.func 171) #[.pointer (some ⟨bs + 1, 0, none⟩), .pointer (some ⟨bs, 0, none⟩), .pointer (some ⟨bs + 2, 0, none⟩)], args := #[.func (.yield (d + 1)) #[] #[]] }, W1, 171,
  #[.func (.yield (d + 1)) #[] #[]] ++ #[.pointer (some ⟨bs + 1, 0, none⟩), .pointer (some ⟨bs, 0, none⟩), .pointer (some ⟨bs + 2, 0, none⟩)], W1, ?_, ?_, fun f' hf' => trivial, ?_, fun _ => h1, ?_⟩
 ·exact run_enterLoop_outer _ _ _ _ _
 ·simp only [resolve, hg]
  simp [go_sem]
 ·simp [invoke, go_sem]
 -- what the loop keeps between two rounds, and when a round has left it
 have far : ∀ {A B : World} {row : Option Nat}, (∀ r, row = some r → W1.heap.size ≤ r ∧ ∃ o : Obj, A.heap[r]? = some o ∧ o.isWalk = true) → (∀ r, row = some r → w.heap.size ≤ r ∧ ∃ o : Obj, A.heap[r]? = some o ∧ o.isCells = false) := by
  intro A B row hr r e
  obtain ⟨hB, o, ho, hw⟩ := hr r e
  exact ⟨by rw [size1] at hB; simp only [d] at hB; omega, o, ho, Obj.not_cells_of_walk hw⟩
 refine (hseq (d + 1)
  (fun pre W => I pre W ∧ W.heap[d + 1]? = some (.loop (R .ready none)) ∧ W.heap[d]? = some (.deferred (some [])))
  (fun pre W => ∃ c, Ix c pre W ∧ W.heap[d + 1]? = some (.loop (R .done (some c))) ∧ W.heap[d]? = some (.deferred (some [])))
  W1 hW1 ?abides ?abides2 ?stores ?rounds ⟨hI.alloc _ (hI.alloc _ h0), hLoop, hDef⟩).mono ?after
 case abides =>
  intro s A B row hs hg' hr
  exact ⟨hI s A B row hs.1 hg' (far (B := B) hr), (grownBy_keeps hg' (fun r e => (hr r e).2) hs.2.1 rfl).trans hs.2.1, (grownBy_keeps hg' (fun r e => (hr r e).2) hs.2.2 rfl).trans hs.2.2⟩
 case abides2 =>
  rintro s A B row ⟨c, hc, hl, hk⟩ hg' hr
  exact ⟨c, hIx c s A B row hc hg' (far (B := B) hr), (grownBy_keeps hg' (fun r e => (hr r e).2) hl rfl).trans hl, (grownBy_keeps hg' (fun r e => (hr r e).2) hk rfl).trans hk⟩
 case stores =>
  rintro s A v ⟨hi, hl, hk⟩
  exact ⟨hIs s A v hi, (KeepsOthers.setCell A _ v).same _ _ hl rfl, (KeepsOthers.setCell A _ v).same _ _ hk rfl⟩
 case rounds =>
  rintro pre x W ⟨hi, hl, hk⟩ _ hpx
  have hy := run_yield (P := Tryz.prog) (args := #[.string x]) hl rfl
  refine ⟨fn, _, assign, body, hy, roundIn_of_wpIn hfn ?_⟩
  refine hassign _ x W _ ?_
  refine ⟨_, run_beginRound hl rfl, ?_⟩
  have hlt : d + 1 < W.heap.size := (Array.getElem?_eq_some_iff.1 hl).1
  have busy : (W.putObj (d + 1) (.loop (R .busy none))).heap[d + 1]? = some (.loop (R .busy none)) := World.putObj_heap_same hlt
  have busyD : (W.putObj (d + 1) (.loop (R .busy none))).heap[d]? = some (.deferred (some [])) := (World.putObj_heap_other (by omega)).trans hk
  have kept1 : KeptD D W (W.putObj (d + 1) (.loop (R .busy none))) := putKept _ _ _ (by simp only [d]; omega)
  refine wpIn_mono (hbody _ pre x _ (hI.putObj _ hi (by simp only [d]; omega) hl rfl) hpx) ?_
  have ended : ∀ (jump : Option Code) (W3 : World), KeepsOthers (W.putObj (d + 1) (.loop (R .busy none))) W3 →
    W3.heap[d + 1]? = some (.loop (R .busy none)) ∧
    (Instr.endRound (d + 1) jump).run Tryz.prog W3 = .ok (.bool jump.isNone) (W3.putObj (d + 1) (.loop (R (if jump.isNone then .ready else .done) jump))) ∧
    (W3.putObj (d + 1) (.loop (R (if jump.isNone then .ready else .done) jump))).heap[d + 1]? = some (.loop (R (if jump.isNone then .ready else .done) jump)) ∧
    (W3.putObj (d + 1) (.loop (R (if jump.isNone then .ready else .done) jump))).heap[d]? = some (.deferred (some [])) := by
   intro jump W3 hk3
   have hl3 := hk3.same _ _ busy rfl
   exact ⟨hl3, run_endRound (P := Tryz.prog) jump hl3, World.putObj_heap_same (Array.getElem?_eq_some_iff.1 hl3).1, (World.putObj_heap_other (by omega)).trans (hk3.same _ _ busyD rfl)⟩
  have left : ∀ (c : Code) (W3 : World), KeepsOthers (W.putObj (d + 1) (.loop (R .busy none))) W3 → Ix c (pre ++ [x]) W3 →
    ∃ v W4, (Instr.endRound (d + 1) (some c)).run Tryz.prog W3 = .ok v W4 ∧ (v = .bool false ∧ ∃ c', Ix c' (pre ++ [x]) W4 ∧ W4.heap[d + 1]? = some (.loop (R .done (some c'))) ∧ W4.heap[d]? = some (.deferred (some []))) := by
   intro c W3 hk3 hi3
   obtain ⟨hl3, hr, hl4, hk4⟩ := ended (some c) W3 hk3
   exact ⟨_, _, hr, rfl, c, (hIx c).putObj _ hi3 (by simp only [d]; omega) hl3 rfl, hl4, hk4⟩
  rintro e a3 W3 hp
  cases e with
  | normal =>
   obtain ⟨hk3, hkp3, hi3⟩ := hp
   obtain ⟨hl3, hr, hl4, hk4⟩ := ended none W3 hk3
   exact ⟨_, _, hr, .inl ⟨rfl, ⟨hI.putObj _ hi3 (by simp only [d]; omega) hl3 rfl, hl4, hk4⟩, (kept1.trans hkp3).trans (putKept _ _ _ (by simp only [d]; omega))⟩⟩
  | ret => 
   obtain ⟨v, W4, hr, rfl, hx⟩ := left .ret W3 hp.1 hp.2
   exact ⟨_, _, hr, .inr ⟨rfl, hx⟩⟩
  | exit id =>
   obtain ⟨v, W4, hr, rfl, hx⟩ := left (.exit id) W3 hp.1 hp.2
   exact ⟨_, _, hr, .inr ⟨rfl, hx⟩⟩
  | goto t =>
   obtain ⟨v, W4, hr, rfl, hx⟩ := left (.goto t) W3 hp.1 hp.2
   exact ⟨_, _, hr, .inr ⟨rfl, hx⟩⟩
  | panic ch => exact hp.elim
  | outgrown => exact hp.elim
 case after =>
  rintro e W2 ⟨⟨v, rfl⟩, (⟨hi, hl, hk⟩ | ⟨pre, hSp, c, hi, hl, hk⟩)⟩
  ·exact ⟨none, _, run_endLoop (P := Tryz.prog) hl (by simp [R]), hdone d _ (Nat.le_refl _) (hI.putObj _ hi (by simp only [d]; omega) hl rfl) ((World.putObj_heap_other (by omega)).trans hk)⟩
  exact ⟨some c, _, run_endLoop (P := Tryz.prog) hl (by simp [R]), hstop d c pre _ (Nat.le_refl _) hSp ((hIx c).putObj _ hi (by simp only [d]; omega) hl rfl) ((World.putObj_heap_other (by omega)).trans hk)⟩
end Go.Proofs.YtcndmhpeolbepaaGreatDoor.Fn
namespace Go.Proofs.YtcndmhpeolbepaaGreatDoor.Fn
open Go.Shelf
theorem cell_of_new {W : World} {B : Nat} {v : Value} {t : TypeId} (h : W.heap[B]? = some (.cells #[v] t (0, 0))) : W.cell? ⟨B, 0, none⟩ = some v ∧ W.frozen? ⟨B, 0, none⟩ = false := by
 constructor <;> simp [World.cell?, World.frozen?, h]
theorem box_cell (W : World) (v : Value) (t : TypeId) : (W.alloc (.cells #[v] t)).cell? ⟨W.heap.size, 0, none⟩ = some v ∧ (W.alloc (.cells #[v] t)).frozen? ⟨W.heap.size, 0, none⟩ = false := by
 have h := World.alloc_heap_new W (.cells #[v] t)
 exact cell_of_new h
theorem cell_on {W : World} {a : Addr} {v : Value} (o : Obj) (h : W.cell? a = some v) : (W.alloc o).cell? a = some v := cell_kept h (World.grownBy_alloc W o none) (fun r e => by cases e)
theorem frozen_on {W : World} {a : Addr} {v : Value} (o : Obj) (h : W.cell? a = some v) (hf : W.frozen? a = false) : (W.alloc o).frozen? a = false := (frozen_kept h (World.grownBy_alloc W o none) (fun r e => by cases e)).trans hf
structure SplitBoxes (bs : Nat) (s sep : ByteArray) (w : World) : Prop where
 text : w.cell? ⟨bs, 0, none⟩ = some (.string s)
 free : w.frozen? ⟨bs, 0, none⟩ = false
 sep : w.cell? ⟨bs + 1, 0, none⟩ = some (.string sep)
 zero : w.cell? ⟨bs + 2, 0, none⟩ = some (.int .i64 0)
set_option maxHeartbeats 2000000 in
set_option maxRecDepth 100000 in
theorem splitSeq_calls (s sep : ByteArray) (w : World) :
  Calls Tryz.prog 141 #[.string s, .string sep, .int .i64 0] w fun e w' =>
   e = .returned (.func (.func 171) #[] #[.pointer (some ⟨w.heap.size + 1, 0, none⟩), .pointer (some ⟨w.heap.size, 0, none⟩), .pointer (some ⟨w.heap.size + 2, 0, none⟩)]) ∧
   SplitBoxes w.heap.size s sep w' ∧ w'.heap.size = w.heap.size + 3 ∧ Below w.heap.size w w' := by
 go_enter Tryz.func141, Tryz.ntmps141
 go_wp2
 go_ret
 have b0 := box_cell w (.string s) 9
 have b1 := box_cell (w.alloc (.cells #[.string s] 9)) (.string sep) 9
 have b2 := box_cell ((w.alloc (.cells #[.string s] 9)).alloc (.cells #[.string sep] 9)) (.int .i64 0) 3
 simp only [World.size_alloc] at b1 b2
 refine ⟨by simp, ⟨cell_on _ (cell_on _ b0.1), frozen_on _ (cell_on _ b0.1) (frozen_on _ b0.1 b0.2), cell_on _ b1.1, b2.1⟩, by simp, (((Below.refl _ w).alloc (Nat.le_refl _) _).alloc (by simp) _).alloc (by simp; omega) _⟩
set_option maxHeartbeats 2000000 in
set_option maxRecDepth 100000 in
theorem SplitSeq_calls (s sep : ByteArray) (w : World) :
  Calls Tryz.prog 106 #[.string s, .string sep] w fun e w' =>
   e = .returned (.func (.func 171) #[] #[.pointer (some ⟨w.heap.size + 1, 0, none⟩), .pointer (some ⟨w.heap.size, 0, none⟩), .pointer (some ⟨w.heap.size + 2, 0, none⟩)]) ∧
   SplitBoxes w.heap.size s sep w' ∧ w'.heap.size = w.heap.size + 3 ∧ Below w.heap.size w w' := by
 go_enter Tryz.func106, Tryz.ntmps106
 go_wp2_with (go_at_call 141; refine (splitSeq_calls s sep _).mono ?_; rintro e w' ⟨rfl, hb, hz, hB⟩)
 go_ret
 exact ⟨rfl, hb, hz, hB⟩
def findOne (c : UInt8) (t : ByteArray) : Int := Lib.indexByte t.data.toList c
theorem indexByte_fits (c : UInt8) : ∀ (l : List UInt8), 0 ≤ Lib.indexByte l c → (Lib.indexByte l c).toNat + 1 ≤ l.length := by
 intro l
 induction l with
 | nil => intro h; simp [Lib.indexByte] at h
 | cons b l ih =>
  intro h
  rw [Lib.indexByte] at h ⊢
  split at h
  ·rename_i e; rw [if_pos e]; simp
  rename_i e
  rw [if_neg e]
  split at h
  ·omega
  rename_i e2
  rw [if_neg e2]
  have := Lib.indexByte_ge l c
  have h3 : 0 ≤ Lib.indexByte l c := by
   have : Lib.indexByte l c ≠ -1 := fun q => e2 (by rw [q]; rfl)
   omega
  have := ih h3
  simp only [List.length_cons]
  omega
theorem finds_one (c : UInt8) : Finds (findOne c) 1 := ⟨by omega, fun s h => by rw [← Pl.data_length]; exact indexByte_fits c _ h⟩
theorem split_gives_one (n : Nat) (hn : 1 ≤ n) (bs : Nat) (s : ByteArray) (c : UInt8) (hs : s.size < 4611686018427387904) (w : World) (hw : bs + 3 ≤ w.heap.size) (h : SplitBoxes bs s ⟨#[c]⟩ w) :
  SplitGives n bs (fun b => bs ≤ b ∧ b ≤ bs + 2) (cuts (findOne c) 1 s) w :=
 split_gives n hn bs _ (fun b h1 h2 => ⟨h1, h2⟩) s ⟨#[c]⟩ (findOne c) (finds_one c) (show 1 < 4611686018427387904 by decide) hs w (fun b hb => by omega) (fun t W _ _ => Tryz.strings_Index_one t c W) h.text h.free h.sep h.zero
theorem cutsN_size (find : ByteArray → Int) (L : Nat) : ∀ (k : Nat) (s x : ByteArray), x ∈ cutsN find L k s → x.size ≤ s.size
 | 0, s, x, h => by simp [cutsN] at h; rw [h]; exact Nat.le_refl _
 | k + 1, s, x, h => by
  rw [cutsN] at h
  by_cases h0 : find s < 0
  ·rw [if_pos h0] at h; simp at h; rw [h]; exact Nat.le_refl _
  rw [if_neg h0] at h
  rcases List.mem_cons.1 h with e | e
  ·rw [e]; simp only [ByteArray.size_extract]; omega
  have := cutsN_size find L k _ x e
  simp only [ByteArray.size_extract] at this
  omega
theorem cuts_size {find : ByteArray → Int} {L : Nat} {s x : ByteArray} (h : x ∈ cuts find L s) : x.size ≤ s.size := cutsN_size find L _ s x h
theorem mem_of_prefix {pre xs : List ByteArray} {x : ByteArray} (h : pre ++ [x] <+: xs) : x ∈ xs := h.subset (by simp)
end Go.Proofs.YtcndmhpeolbepaaGreatDoor.Fn
set_option linter.unusedVariables false
namespace Go.Proofs.YtcndmhpeolbepaaGreatDoor.Pl
def dots (s : ByteArray) : List ByteArray := Fn.cuts (Fn.findOne 46) 1 s
def dotted (s : ByteArray) : Bool := (dots s).all isAtom
end Go.Proofs.YtcndmhpeolbepaaGreatDoor.Pl
namespace Go.Proofs.YtcndmhpeolbepaaGreatDoor.Fn
open Go.RowKit Go.Shelf Go.Proofs.YtcndmhpeolbepaaGreatDoorW.PrintWords

def addr_Dotted.f (a0 : ByteArray) : Option Bool := if a0.size ≤ 140737488355328 then some (Pl.dotted a0) else none

attribute [local go_sem] Oper.semAt_some

set_option maxHeartbeats 4000000 in
set_option maxRecDepth 100000 in
theorem addr_Dotted.calls (a0 : ByteArray) (r : Bool) (w : World) (h : addr_Dotted.f a0 = some r) :
  Calls Tryz.prog 62 #[.string a0] w fun e w' => e = .returned (.bool r) ∧ Below w.heap.size w w' := by
 unfold addr_Dotted.f at h
 by_cases hs : a0.size ≤ 140737488355328
 ·rw [if_pos hs] at h
  have HR := Aside0.mk (Option.some.inj h)
  clear h
  have h1 : 1 ≤ 3 := by decide
  refine (callsIn_wide (n := 3)).1 ?_
  refine callsIn_of_wp_marks Tryz.func62 rfl trivial ?_ rfl
  simp only [Tryz.ntmps62, List.size_toArray, List.length_cons, List.length_nil, Nat.reduceAdd, Nat.reduceSub, Array.replicate_succ, Array.replicate_zero, List.push_toArray, List.append_toArray, List.nil_append, List.cons_append]
  gi_wp2_with (refine ⟨trivial, ?_⟩; gi_at_call 106; refine (callsIn_wide.2 (SplitSeq_calls _ _ _)).mono ?_; rintro e W1 ⟨rfl, hb, hz, hB⟩)
  simp only [World.size_alloc] at hb hz hB
  have b0 := box_cell w (.bool false) 4
  have B0 : Below w.heap.size w (w.alloc (.cells #[.bool false] 4)) := (Below.refl _ w).alloc (Nat.le_refl _) _
  have c0 := (hB.cell (p := ⟨w.heap.size, 0, none⟩) (by simp)).trans b0.1
  have f0 := (hB.frozen (p := ⟨w.heap.size, 0, none⟩) (by simp)).trans b0.2
  have B1 : Below w.heap.size w W1 := B0.trans (hB.mono (by simp))
  refine split_range (bs := w.heap.size + 1) (D := fun b => w.heap.size + 1 ≤ b ∧ b ≤ w.heap.size + 1 + 2) (xs := Pl.dots a0) h1 rfl
   (split_gives_one 2 (by decide) (w.heap.size + 1) a0 46 (by omega) W1 (by omega) hb) (fun b hb => by omega)
   (fun pre W => (pre.all Pl.isAtom = true ∧ W.cell? ⟨w.heap.size, 0, none⟩ = some (.bool false) ∧ W.frozen? ⟨w.heap.size, 0, none⟩ = false) ∧ Below w.heap.size w W)
   (fun c pre W => (c = .ret ∧ pre.all Pl.isAtom = false ∧ W.cell? ⟨w.heap.size, 0, none⟩ = some (.bool false)) ∧ Below w.heap.size w W)
   (OwnFrom.and (Own.from (fun s A B row hs hg hr => ⟨hs.1, cell_kept hs.2.1 hg hr, (frozen_kept hs.2.1 hg hr).trans hs.2.2⟩) _) (ownFrom_below (Nat.le_refl _) (by omega)))
   (fun c => OwnFrom.and (Own.from (fun s A B row hs hg hr => ⟨hs.1, hs.2.1, cell_kept hs.2.2 hg hr⟩) _) (ownFrom_below (Nat.le_refl _) (by omega)))
   (fun s A v hs => ⟨⟨hs.1.1, (World.cell?_setCell_other _ _ _ _ (by simp)).trans hs.1.2.1, by rw [World.frozen?_setCell]; exact hs.1.2.2⟩, hs.2.setCell (p := ⟨w.heap.size + 1, 0, none⟩) (by simp) _⟩)
   ⟨⟨rfl, c0, f0⟩, B1⟩
   (fun x => { tmps := #[.string a0, undef, .pointer (some ⟨w.heap.size, 0, none⟩), .string x, .string a0, .func (.func 171) #[] #[.pointer (some ⟨w.heap.size + 1 + 1, 0, none⟩), .pointer (some ⟨w.heap.size + 1, 0, none⟩), .pointer (some ⟨w.heap.size + 1 + 2, 0, none⟩)], .string x, undef, undef, undef], defers := [] }) ?assign ?body ?done ?stop
  case assign =>
   intro l x W K hK
   gi_wp2
   exact hK
  case body =>
   rintro l pre x W ⟨⟨hp, hc, hf⟩, hBW⟩ hpx
   have hx : x.size ≤ 140737488355328 := Nat.le_trans (cuts_size (mem_of_prefix hpx)) hs
   have hW := hBW.size
   have hsz1 : w.heap.size < W.heap.size := by
    obtain ⟨o, ho, _⟩ := not_walk_of_cell hc
    exact (Array.getElem?_eq_some_iff.1 ho).1
   have hat := Pl.lexIsAtom_is x hx (x.size + 1) (Nat.le_refl _)
   have h11 : 1 ≤ 3 - 1 - 1 := by decide
   cases ha : Pl.isAtom x with
   | true =>
    rw [ha] at hat
    gi_wp2_with (refine ⟨trivial, ?_⟩; gi_at_call 107; refine (CallsIn.inRound l (callsIn_wide.2 (lex_IsAtom.calls _ x true W hat))).mono ?_; rintro e w' ⟨rfl, ⟨⟨nd, rfl⟩⟩⟩)
    exact ⟨⟨Nat.le_refl _, fun _ _ h _ => h⟩, fun _ _ => rfl, ⟨by simp [hp, ha], hc, hf⟩, pw_below_drewN hBW nd⟩
   | false =>
    rw [ha] at hat
    gi_wp2_with (refine ⟨trivial, ?_⟩; gi_at_call 107; refine (CallsIn.inRound l (callsIn_wide.2 (lex_IsAtom.calls _ x false W hat))).mono ?_; rintro e w' ⟨rfl, ⟨⟨nd, rfl⟩⟩⟩)
    exact ⟨KeepsOthers.trans (⟨Nat.le_refl _, fun _ _ h _ => h⟩ : KeepsOthers W (W.drewN nd)) (KeepsOthers.setCell _ _ _), ⟨rfl, by simp [ha], World.cell?_setCell_same' _ _ _ (by rw [show (W.drewN nd).cell? ⟨w.heap.size, 0, none⟩ = _ from hc]; rfl)⟩, (pw_below_drewN hBW nd).setCell (p := ⟨w.heap.size, 0, none⟩) (Nat.le_refl _) _⟩
  case done =>
   rintro d W hd ⟨⟨hp, hc, hf⟩, hBW⟩ hK
   gi_wp2
   have hK' := (KeepsOthers.setCell W ⟨w.heap.size, 0, none⟩ (.bool true)).same d _ hK rfl
   refine ⟨by simp, .inl ⟨_, _, rfl, run_takeDeferred hK', ?_⟩⟩
   have hc5 := cell_kept (World.cell?_setCell_same' W ⟨w.heap.size, 0, none⟩ (.bool true) (by rw [hc]; rfl)) (grownBy_putObj' _ d (.deferred none)) (fun r e => by cases e; exact ⟨_, hK', rfl⟩)
   refine ⟨.bool true, ?_, by rw [← HR.out]; exact ⟨by rw [show Pl.dotted a0 = true from hp], (hBW.setCell (p := ⟨w.heap.size, 0, none⟩) (Nat.le_refl _) _).trans (belowK_b (w := w) (Nat.le_refl _) _ d _ _ (by omega) hK' rfl rfl)⟩⟩
   simp [results, Tryz.f62, go_sem, hc5]
  case stop =>
   rintro d c pre W hd hpre ⟨⟨rfl, hp, hc⟩, hBW⟩ hK
   gi_wp2
   refine ⟨by simp, .inl ⟨_, _, rfl, run_takeDeferred hK, ?_⟩⟩
   have hc5 := cell_kept hc (grownBy_putObj' _ d (.deferred none)) (fun r e => by cases e; exact ⟨_, hK, rfl⟩)
   have hall : Pl.dotted a0 = false := by
    show (Pl.dots a0).all Pl.isAtom = false
    rw [List.all_eq_false] at hp ⊢
    obtain ⟨y, hy, hn⟩ := hp
    exact ⟨y, hpre.subset hy, hn⟩
   refine ⟨.bool false, ?_, by rw [← HR.out, hall], hBW.trans (belowK_b (w := w) (Nat.le_refl _) W d _ _ (by omega) hK rfl rfl)⟩
   simp [results, Tryz.f62, go_sem, hc5]
 rw [if_neg hs] at h
 exact absurd h (by simp)
end Go.Proofs.YtcndmhpeolbepaaGreatDoor.Fn
set_option linter.unusedVariables false
namespace Go.Proofs.YtcndmhpeolbepaaGreatDoor.Pl
def domLong (s : ByteArray) (l : List ByteArray) : Bool := decide (253 < (s.size : Int)) || l.any (fun x => decide (63 < (x.size : Int)))
def domain (s : ByteArray) : Int := if (dots s).all label = true then (if domLong s (dots s) = true then 2 else 0) else 130
end Go.Proofs.YtcndmhpeolbepaaGreatDoor.Pl
namespace Go.Proofs.YtcndmhpeolbepaaGreatDoor.Fn
open Go.RowKit Go.Shelf Go.Proofs.YtcndmhpeolbepaaGreatDoorW.PrintWords

def addr_domain.f (a0 : ByteArray) : Option Int := if a0.size ≤ 140737488355328 then some (Pl.domain a0) else none

attribute [local go_sem] Oper.semAt_some

set_option maxHeartbeats 4000000 in
set_option maxRecDepth 100000 in
theorem addr_domain.calls (a0 : ByteArray) (r : Int) (w : World) (h : addr_domain.f a0 = some r) :
  Calls Tryz.prog 222 #[.string a0] w fun e w' => e = .returned (.int .i64 r) ∧ Below w.heap.size w w' := by
 unfold addr_domain.f at h
 by_cases hs : a0.size ≤ 140737488355328
 ·rw [if_pos hs] at h
  have HR := Aside0.mk (Option.some.inj h)
  clear h
  have h1 : 1 ≤ 3 := by decide
  refine (callsIn_wide (n := 3)).1 ?_
  refine callsIn_of_wp_marks Tryz.func222 rfl trivial ?_ rfl
  simp only [Tryz.ntmps222, List.size_toArray, List.length_cons, List.length_nil, Nat.reduceAdd, Nat.reduceSub, Array.replicate_succ, Array.replicate_zero, List.push_toArray, List.append_toArray, List.nil_append, List.cons_append]
  gi_wp2_with (refine ⟨trivial, ?_⟩; gi_at_call 106; refine (callsIn_wide.2 (SplitSeq_calls _ _ _)).mono ?_; rintro e W1 ⟨rfl, hb, hz, hB⟩)
  simp only [World.size_alloc] at hb hz hB
  have b0 := box_cell w (.int .i64 0) 92
  have b1 := box_cell (w.alloc (.cells #[.int .i64 0] 92)) (.bool (decide (253 < (a0.size : Int)))) 4
  rw [World.size_alloc] at b1
  have B0 : Below w.heap.size w ((w.alloc (.cells #[.int .i64 0] 92)).alloc (.cells #[.bool (decide (253 < (a0.size : Int)))] 4)) := ((Below.refl _ w).alloc (Nat.le_refl _) _).alloc (by simp) _
  have c0 := (hB.cell (p := ⟨w.heap.size, 0, none⟩) (by simp; omega)).trans (cell_on _ b0.1)
  have f0 := (hB.frozen (p := ⟨w.heap.size, 0, none⟩) (by simp; omega)).trans (frozen_on _ b0.1 b0.2)
  have c1 := (hB.cell (p := ⟨w.heap.size + 1, 0, none⟩) (by simp)).trans b1.1
  have f1 := (hB.frozen (p := ⟨w.heap.size + 1, 0, none⟩) (by simp)).trans b1.2
  have B1 : Below w.heap.size w W1 := B0.trans (hB.mono (by omega))
  refine split_range (bs := w.heap.size + 1 + 1) (D := fun b => w.heap.size + 1 + 1 ≤ b ∧ b ≤ w.heap.size + 1 + 1 + 2) (xs := Pl.dots a0) h1 rfl
   (split_gives_one 2 (by decide) (w.heap.size + 1 + 1) a0 46 (by omega) W1 (by omega) hb) (fun b hb => by omega)
   (fun pre W => (pre.all Pl.label = true ∧ W.cell? ⟨w.heap.size, 0, none⟩ = some (.int .i64 0) ∧ W.frozen? ⟨w.heap.size, 0, none⟩ = false ∧ W.cell? ⟨w.heap.size + 1, 0, none⟩ = some (.bool (Pl.domLong a0 pre)) ∧ W.frozen? ⟨w.heap.size + 1, 0, none⟩ = false) ∧ Below w.heap.size w W)
   (fun c pre W => (c = .ret ∧ pre.all Pl.label = false ∧ W.cell? ⟨w.heap.size, 0, none⟩ = some (.int .i64 130)) ∧ Below w.heap.size w W)
   (OwnFrom.and (Own.from (fun s A B row hs hg hr => ⟨hs.1, cell_kept hs.2.1 hg hr, (frozen_kept hs.2.1 hg hr).trans hs.2.2.1, cell_kept hs.2.2.2.1 hg hr, (frozen_kept hs.2.2.2.1 hg hr).trans hs.2.2.2.2⟩) _) (ownFrom_below (Nat.le_refl _) (by omega)))
   (fun c => OwnFrom.and (Own.from (fun s A B row hs hg hr => ⟨hs.1, hs.2.1, cell_kept hs.2.2 hg hr⟩) _) (ownFrom_below (Nat.le_refl _) (by omega)))
   (fun s A v hs => ⟨⟨hs.1.1, (World.cell?_setCell_other _ _ _ _ (by simp)).trans hs.1.2.1, by rw [World.frozen?_setCell]; exact hs.1.2.2.1, (World.cell?_setCell_other _ _ _ _ (by simp)).trans hs.1.2.2.2.1, by rw [World.frozen?_setCell]; exact hs.1.2.2.2.2⟩, hs.2.setCell (p := ⟨w.heap.size + 1 + 1, 0, none⟩) (by simp; omega) _⟩)
   ⟨⟨rfl, c0, f0, by rw [c1]; simp [Pl.domLong], f1⟩, B1⟩
   (fun x => { tmps := #[.string a0, undef, .pointer (some ⟨w.heap.size, 0, none⟩), .pointer (some ⟨w.heap.size + 1, 0, none⟩), .string x, .string a0, .int .i64 (a0.size : Int), .bool (decide (253 < (a0.size : Int))), .string a0, .func (.func 171) #[] #[.pointer (some ⟨w.heap.size + 1 + 1 + 1, 0, none⟩), .pointer (some ⟨w.heap.size + 1 + 1, 0, none⟩), .pointer (some ⟨w.heap.size + 1 + 1 + 2, 0, none⟩)], .string x, undef, undef, undef, undef, undef, undef, undef, undef, undef, undef], defers := [] }) ?assign ?body ?done ?stop
  case assign =>
   intro l x W K hK
   gi_wp2
   exact hK
  case body =>
   rintro l pre x W ⟨⟨hp, hc, hf, hcl, hfl⟩, hBW⟩ hpx
   have hx : x.size ≤ 140737488355328 := Nat.le_trans (cuts_size (mem_of_prefix hpx)) hs
   have hW := hBW.size
   have hat := Pl.addrLabel_is x hx (x.size + 1) (Nat.le_refl _)
   have h11 : 1 ≤ 3 - 1 - 1 := by decide
   cases ha : Pl.label x with
   | true =>
    rw [ha] at hat
    have hnew : Pl.domLong a0 (pre ++ [x]) = (Pl.domLong a0 pre || decide (63 < (x.size : Int))) := by simp [Pl.domLong, Bool.or_assoc]
    have hnew' := Aside0.mk hnew
    clear hnew
    have kd : ∀ (W' : World) (v : Value), KeptD (fun b => w.heap.size + 1 + 1 ≤ b ∧ b ≤ w.heap.size + 1 + 1 + 2) W' (W'.setCell ⟨w.heap.size + 1, 0, none⟩ v) := fun W' v b hb => Below.heap_setCell _ _ _ _ (by simp; omega)
    obtain ⟨lb, hlb⟩ : ∃ lb, Pl.domLong a0 pre = lb := ⟨_, rfl⟩
    rw [hlb] at hcl
    have hlb' := Aside0.mk hlb
    clear hlb
    cases lb with
    | true =>
     gi_wp2_with (refine ⟨trivial, ?_⟩; gi_at_call 225; refine (CallsIn.inRound l (callsIn_wide.2 (addr_label.calls _ x true W hat))).mono ?_; rintro e w' ⟨rfl, ⟨⟨nd, rfl⟩⟩⟩)
     refine ⟨KeepsOthers.trans (⟨Nat.le_refl _, fun _ _ h _ => h⟩ : KeepsOthers W (W.drewN nd)) (KeepsOthers.setCell _ _ _), kd (W.drewN nd) _, ⟨by simp [hp, ha], (World.cell?_setCell_other _ _ _ _ (by simp)).trans hc, by rw [World.frozen?_setCell]; exact hf, ?_, by rw [World.frozen?_setCell]; exact hfl⟩, (pw_below_drewN hBW nd).setCell (p := ⟨w.heap.size + 1, 0, none⟩) (by simp) _⟩
     rw [hnew'.out, hlb'.out]
     exact World.cell?_setCell_same' _ _ _ (by rw [show (W.drewN nd).cell? ⟨w.heap.size + 1, 0, none⟩ = _ from hcl]; rfl)
    | false =>
     gi_wp2_with (refine ⟨trivial, ?_⟩; gi_at_call 225; refine (CallsIn.inRound l (callsIn_wide.2 (addr_label.calls _ x true W hat))).mono ?_; rintro e w' ⟨rfl, ⟨⟨nd, rfl⟩⟩⟩)
     refine ⟨KeepsOthers.trans (⟨Nat.le_refl _, fun _ _ h _ => h⟩ : KeepsOthers W (W.drewN nd)) (KeepsOthers.setCell _ _ _), kd (W.drewN nd) _, ⟨by simp [hp, ha], (World.cell?_setCell_other _ _ _ _ (by simp)).trans hc, by rw [World.frozen?_setCell]; exact hf, ?_, by rw [World.frozen?_setCell]; exact hfl⟩, (pw_below_drewN hBW nd).setCell (p := ⟨w.heap.size + 1, 0, none⟩) (by simp) _⟩
     rw [hnew'.out, hlb'.out]
     exact World.cell?_setCell_same' _ _ _ (by rw [show (W.drewN nd).cell? ⟨w.heap.size + 1, 0, none⟩ = _ from hcl]; rfl)
   | false =>
    rw [ha] at hat
    gi_wp2_with (refine ⟨trivial, ?_⟩; gi_at_call 225; refine (CallsIn.inRound l (callsIn_wide.2 (addr_label.calls _ x false W hat))).mono ?_; rintro e w' ⟨rfl, ⟨⟨nd, rfl⟩⟩⟩)
    exact ⟨KeepsOthers.trans (⟨Nat.le_refl _, fun _ _ h _ => h⟩ : KeepsOthers W (W.drewN nd)) (KeepsOthers.setCell _ _ _), ⟨rfl, by simp [ha], World.cell?_setCell_same' _ _ _ (by rw [show (W.drewN nd).cell? ⟨w.heap.size, 0, none⟩ = _ from hc]; rfl)⟩, (pw_below_drewN hBW nd).setCell (p := ⟨w.heap.size, 0, none⟩) (Nat.le_refl _) _⟩
  case done =>
   rintro d W hd ⟨⟨hp, hc, hf, hcl, hfl⟩, hBW⟩ hK
   have hgood : Pl.domain a0 = if Pl.domLong a0 (Pl.dots a0) = true then 2 else 0 := by unfold Pl.domain; rw [if_pos hp]
   obtain ⟨lb, hlb⟩ : ∃ lb, Pl.domLong a0 (Pl.dots a0) = lb := ⟨_, rfl⟩
   rw [hlb] at hcl hgood
   clear hlb
   have hgood' := Aside0.mk hgood
   clear hgood
   cases lb with
   | true =>
    gi_wp2
    have hK' := (KeepsOthers.setCell W ⟨w.heap.size, 0, none⟩ (.int .i64 2)).same d _ hK rfl
    refine ⟨by simp, .inl ⟨_, _, rfl, run_takeDeferred hK', ?_⟩⟩
    have hc5 := cell_kept (World.cell?_setCell_same' W ⟨w.heap.size, 0, none⟩ (.int .i64 2) (by rw [hc]; rfl)) (grownBy_putObj' _ d (.deferred none)) (fun r e => by cases e; exact ⟨_, hK', rfl⟩)
    refine ⟨.int .i64 2, ?_, by rw [← HR.out, hgood'.out]; simp, (hBW.setCell (p := ⟨w.heap.size, 0, none⟩) (Nat.le_refl _) _).trans (belowK_b (w := w) (Nat.le_refl _) _ d _ _ (by omega) hK' rfl rfl)⟩
    simp [results, Tryz.f222, go_sem, hc5]
   | false =>
    gi_wp2
    have hK' := (KeepsOthers.setCell W ⟨w.heap.size, 0, none⟩ (.int .i64 0)).same d _ hK rfl
    refine ⟨by simp, .inl ⟨_, _, rfl, run_takeDeferred hK', ?_⟩⟩
    have hc5 := cell_kept (World.cell?_setCell_same' W ⟨w.heap.size, 0, none⟩ (.int .i64 0) (by rw [hc]; rfl)) (grownBy_putObj' _ d (.deferred none)) (fun r e => by cases e; exact ⟨_, hK', rfl⟩)
    refine ⟨.int .i64 0, ?_, by rw [← HR.out, hgood'.out]; simp, (hBW.setCell (p := ⟨w.heap.size, 0, none⟩) (Nat.le_refl _) _).trans (belowK_b (w := w) (Nat.le_refl _) _ d _ _ (by omega) hK' rfl rfl)⟩
    simp [results, Tryz.f222, go_sem, hc5]
  case stop =>
   rintro d c pre W hd hpre ⟨⟨rfl, hp, hc⟩, hBW⟩ hK
   gi_wp2
   refine ⟨by simp, .inl ⟨_, _, rfl, run_takeDeferred hK, ?_⟩⟩
   have hc5 := cell_kept hc (grownBy_putObj' _ d (.deferred none)) (fun r e => by cases e; exact ⟨_, hK, rfl⟩)
   have hall : (Pl.dots a0).all Pl.label = false := by
    rw [List.all_eq_false] at hp ⊢
    obtain ⟨y, hy, hn⟩ := hp
    exact ⟨y, hpre.subset hy, hn⟩
   have hd : Pl.domain a0 = 130 := by unfold Pl.domain; rw [if_neg (by rw [hall]; simp)]
   refine ⟨.int .i64 130, ?_, by rw [← HR.out, hd], hBW.trans (belowK_b (w := w) (Nat.le_refl _) W d _ _ (by omega) hK rfl rfl)⟩
   simp [results, Tryz.f222, go_sem, hc5]
 rw [if_neg hs] at h
 exact absurd h (by simp)
end Go.Proofs.YtcndmhpeolbepaaGreatDoor.Fn
namespace Go.Proofs.YtcndmhpeolbepaaGreatDoor.Fn
attribute [local go_sem] max2_int min2_int max_two min_two max_three min_three max_four min_four
def addr_Addr_Text.f (k : Nat) (a0_0 : ByteArray) (a0_1 : ByteArray) : Option (ByteArray) := (addr_Dotted.f a0_0).bind fun t249 => (if t249 = true then (if a0_0.size + 1 ≤ 9223372036854775807 then (if (a0_0 ++ (⟨#[64]⟩ : ByteArray)).size + a0_1.size ≤ 9223372036854775807 then (some ((a0_0 ++ (⟨#[64]⟩ : ByteArray)) ++ a0_1)) else (none)) else (none)) else ((lex_Quote.f k a0_0).bind fun t250 => (if t250.size + 1 ≤ 9223372036854775807 then (if (t250 ++ (⟨#[64]⟩ : ByteArray)).size + a0_1.size ≤ 9223372036854775807 then (some ((t250 ++ (⟨#[64]⟩ : ByteArray)) ++ a0_1)) else (none)) else (none))))
set_option maxRecDepth 100000 in
theorem addr_Addr_Text.calls (k : Nat) (a0_0 : ByteArray) (a0_1 : ByteArray) (r : ByteArray) (w : World) (h : addr_Addr_Text.f k a0_0 a0_1 = some r) :
  Calls Tryz.prog 28 #[.agg #[.string a0_0, .string a0_1]] w fun e w' => e = .returned (.string r) ∧ Below w.heap.size w w' := by
 have hu30 := Tryz.underlying30; have HB := Aside0.mk (Below.refl w.heap.size w); have H : ((addr_Dotted.f a0_0).bind fun t249 => (if t249 = true then (if a0_0.size + 1 ≤ 9223372036854775807 then (if (a0_0 ++ (⟨#[64]⟩ : ByteArray)).size + a0_1.size ≤ 9223372036854775807 then (some ((a0_0 ++ (⟨#[64]⟩ : ByteArray)) ++ a0_1)) else (none)) else (none)) else ((lex_Quote.f k a0_0).bind fun t250 => (if t250.size + 1 ≤ 9223372036854775807 then (if (t250 ++ (⟨#[64]⟩ : ByteArray)).size + a0_1.size ≤ 9223372036854775807 then (some ((t250 ++ (⟨#[64]⟩ : ByteArray)) ++ a0_1)) else (none)) else (none))))) = some r := h; clear h; replace H := Option.bind_eq_some_iff.mp H; obtain ⟨t249, A20, H⟩ := H; have A2 := Aside0.mk A20; clear A20
 by_cases c3 : t249 = true
 ·subst c3; rw [if_pos rfl] at H
  by_cases c4 : a0_0.size + 1 ≤ 9223372036854775807
  ·rw [if_pos c4] at H; have c4b0 := eq_true c4; have c4b1 := decide_eq_true c4
   try have c4b2 : (9223372036854775807 < a0_0.size + 1) = False := eq_false (Nat.not_lt.2 c4)
   by_cases c5 : (a0_0 ++ (⟨#[64]⟩ : ByteArray)).size + a0_1.size ≤ 9223372036854775807
   ·rw [if_pos c5] at H; have c5b0 := eq_true c5; have c5b1 := decide_eq_true c5
    try have c5b2 : (9223372036854775807 < (a0_0 ++ (⟨#[64]⟩ : ByteArray)).size + a0_1.size) = False := eq_false (Nat.not_lt.2 c5)
    try (have c5b3 := c5; simp only [ByteArray.size_append, size_lit, ByteArray.size_extract, List.size_toArray, List.length_cons, List.length_nil, Nat.zero_add, Nat.reduceAdd] at c5b3; have c5b4 := eq_false (Nat.not_lt.2 c5b3))
    obtain rfl := Option.some.inj H
    go_enter Tryz.func28, Tryz.ntmps28
    go_wp2_with (first | ((with_reducible refine gate_dst (N := 1) rfl ?_); refine box_event ?hg (N := 1) ?hd (cs := #[.string a0_0, .string a0_1]) (t := 30) ?hr ?_; (case hd => rfl); (case hg => rfl); (case hr => first | (go_simp; done) | (go_simp; rfl)); intro gb248 hg w6 hbox hb; have n0_ := Aside0.mk (below_step bw hb); have n1_ := Aside0.mk (hbox); have n2_ := Aside0.mk ((by rw [hg]; exact (below_size bw) : w.heap.size ≤ gb248)); have n3_ := Aside0.mk ((by rw [hg]; exact (below_size bw) : w.heap.size ≤ gb248)); clear HB; have HB := n0_; have BK248 := n1_; have GW248 := n2_; have GE248 := n3_; clear n0_ n1_ n2_ n3_; clear hb hbox hg; obtain ⟨hcz7_0, hcz7_1⟩ := ce2 BK248; obtain ⟨hfz7_0, hfz7_1⟩ := fz2 BK248) | ((with_reducible refine gate_callee (f := 62) rfl ?_); refine goesL_ (some 7) rfl rfl Tryz.func62 (by kernel_rfl) rfl #[.string a0_0] rfl am ?_; (with_reducible refine (addr_Dotted.calls a0_0 true _ A2.out).mono ?_); rintro e w8 ⟨rfl, hb⟩; refine ⟨_, rfl, ?_⟩; have n0_ := Aside0.mk (blk_below (g := gb248) (o := .cells #[.string a0_0, .string a0_1] 30 (0, 0)) bk hb); have n1_ := Aside0.mk (below_step bwS hb); clear BK248; clear HB; have BK248 := n0_; have HB := n1_; clear n0_ n1_; (try clear hb); (try clear hb2); (try clear hk); (try clear hi); obtain ⟨hcz9_0, hcz9_1⟩ := ce2 BK248; obtain ⟨hfz9_0, hfz9_1⟩ := fz2 BK248))
    go_ret
    exact ⟨ew, bwS⟩
   rw [if_neg c5] at H; exact absurd H (by simp)
  rw [if_neg c4] at H; exact absurd H (by simp)
 replace c3 := Bool.eq_false_iff.mpr c3; subst c3; rw [if_neg nft] at H; replace H := Option.bind_eq_some_iff.mp H; obtain ⟨t250, A100, H⟩ := H; have A10 := Aside0.mk A100; clear A100
 by_cases c11 : t250.size + 1 ≤ 9223372036854775807
 ·rw [if_pos c11] at H; have c11b0 := eq_true c11; have c11b1 := decide_eq_true c11
  try have c11b2 : (9223372036854775807 < t250.size + 1) = False := eq_false (Nat.not_lt.2 c11)
  by_cases c12 : (t250 ++ (⟨#[64]⟩ : ByteArray)).size + a0_1.size ≤ 9223372036854775807
  ·rw [if_pos c12] at H; have c12b0 := eq_true c12; have c12b1 := decide_eq_true c12
   try have c12b2 : (9223372036854775807 < (t250 ++ (⟨#[64]⟩ : ByteArray)).size + a0_1.size) = False := eq_false (Nat.not_lt.2 c12)
   try (have c12b3 := c12; simp only [ByteArray.size_append, size_lit, ByteArray.size_extract, List.size_toArray, List.length_cons, List.length_nil, Nat.zero_add, Nat.reduceAdd] at c12b3; have c12b4 := eq_false (Nat.not_lt.2 c12b3))
   obtain rfl := Option.some.inj H
   go_enter Tryz.func28, Tryz.ntmps28
   go_wp2_with (first | ((with_reducible refine gate_dst (N := 1) rfl ?_); refine box_event ?hg (N := 1) ?hd (cs := #[.string a0_0, .string a0_1]) (t := 30) ?hr ?_; (case hd => rfl); (case hg => rfl); (case hr => first | (go_simp; done) | (go_simp; rfl)); intro gb248 hg w13 hbox hb; have n0_ := Aside0.mk (below_step bw hb); have n1_ := Aside0.mk (hbox); have n2_ := Aside0.mk ((by rw [hg]; exact (below_size bw) : w.heap.size ≤ gb248)); have n3_ := Aside0.mk ((by rw [hg]; exact (below_size bw) : w.heap.size ≤ gb248)); clear HB; have HB := n0_; have BK248 := n1_; have GW248 := n2_; have GE248 := n3_; clear n0_ n1_ n2_ n3_; clear hb hbox hg; obtain ⟨hcz14_0, hcz14_1⟩ := ce2 BK248; obtain ⟨hfz14_0, hfz14_1⟩ := fz2 BK248) | ((with_reducible refine gate_callee (f := 62) rfl ?_); refine goesL_ (some 7) rfl rfl Tryz.func62 (by kernel_rfl) rfl #[.string a0_0] rfl am ?_; (with_reducible refine (addr_Dotted.calls a0_0 false _ A2.out).mono ?_); rintro e w15 ⟨rfl, hb⟩; refine ⟨_, rfl, ?_⟩; have n0_ := Aside0.mk (blk_below (g := gb248) (o := .cells #[.string a0_0, .string a0_1] 30 (0, 0)) bk hb); have n1_ := Aside0.mk (below_step bwS hb); clear BK248; clear HB; have BK248 := n0_; have HB := n1_; clear n0_ n1_; (try clear hb); (try clear hb2); (try clear hk); (try clear hi)) | ((with_reducible refine gate_callee (f := 63) rfl ?_); refine goesL_ (some 10) rfl rfl Tryz.func63 (by kernel_rfl) rfl #[.string a0_0] rfl am ?_; (with_reducible refine (lex_Quote.calls k a0_0 t250 _ A10.out).mono ?_); rintro e w16 ⟨rfl, hb⟩; refine ⟨_, rfl, ?_⟩; have n0_ := Aside0.mk (blk_below (g := gb248) (o := .cells #[.string a0_0, .string a0_1] 30 (0, 0)) bk hb); have n1_ := Aside0.mk (below_step bwS hb); clear BK248; clear HB; have BK248 := n0_; have HB := n1_; clear n0_ n1_; (try clear hb); (try clear hb2); (try clear hk); (try clear hi); obtain ⟨hcz17_0, hcz17_1⟩ := ce2 BK248; obtain ⟨hfz17_0, hfz17_1⟩ := fz2 BK248))
   go_ret
   exact ⟨ew, bwS⟩
  rw [if_neg c12] at H; exact absurd H (by simp)
 rw [if_neg c11] at H; exact absurd H (by simp)
def addr_why.j0 : Nat → Int → Bool → ByteArray → ByteArray → Option (Int)
 | 0, _, _, _, _ => none
 | k + 1, x3, x19, x511000, x511001 => if x19 = true then (some 130) else (if x3 = 0 then (if (x511000.size : Int) > 64 then (some 2) else ((addr_Addr_Text.f k x511000 x511001).bind fun t513 => (if (t513.size : Int) > 254 then (some 2) else (some 0)))) else (some 2))
def addr_why.f (k : Nat) (a0_0 : ByteArray) (a0_1 : ByteArray) : Option (Int) := (addr_domain.f a0_1).bind fun t511 => (if t511 = 130 then (addr_why.j0 k t511 true a0_0 a0_1) else (if a0_0.toList = ([] : List UInt8) then (addr_why.j0 k t511 true a0_0 a0_1) else ((glyph_Plain.f a0_0).bind fun t512 => (addr_why.j0 k t511 (!t512) a0_0 a0_1))))
set_option maxRecDepth 100000 in
theorem addr_why.calls (k : Nat) (a0_0 : ByteArray) (a0_1 : ByteArray) (r : Int) (w : World) (h : addr_why.f k a0_0 a0_1 = some r) :
  Calls Tryz.prog 218 #[.agg #[.string a0_0, .string a0_1]] w fun e w' => e = .returned (.int .i64 r) ∧ Below w.heap.size w w' := by
 have hu30 := Tryz.underlying30; have HB := Aside0.mk (Below.refl w.heap.size w); have H : ((addr_domain.f a0_1).bind fun t511 => (if t511 = 130 then (addr_why.j0 k t511 true a0_0 a0_1) else (if a0_0.toList = ([] : List UInt8) then (addr_why.j0 k t511 true a0_0 a0_1) else ((glyph_Plain.f a0_0).bind fun t512 => (addr_why.j0 k t511 (!t512) a0_0 a0_1))))) = some r := h; clear h; replace H := Option.bind_eq_some_iff.mp H; obtain ⟨t511, A20, H⟩ := H; have A2 := Aside0.mk A20; clear A20; have HC3 := Aside0.mk H; clear H
 go_enter Tryz.func218, Tryz.ntmps218
 go_upto_region 2 with (first | ((with_reducible refine gate_dst (N := 1) rfl ?_); (try (refine gate_guard (by rfl) ?_; dsimp only)); refine box_event ?hg (N := 1) ?hd (cs := #[.string a0_0, .string a0_1]) (t := 30) ?hr ?_; (case hd => rfl); (case hg => rfl); (case hr => first | (go_simp; done) | (go_simp; rfl)); intro gb510 hg w4 hbox hb; have n0_ := Aside0.mk (below_step bw hb); have n1_ := Aside0.mk (hbox); have n2_ := Aside0.mk ((by rw [hg]; exact (below_size bw) : w.heap.size ≤ gb510)); have n3_ := Aside0.mk ((by rw [hg]; exact (below_size bw) : w.heap.size ≤ gb510)); clear HB; have HB := n0_; have BK510 := n1_; have GW510 := n2_; have GE510 := n3_; clear n0_ n1_ n2_ n3_; clear hb hbox hg; obtain ⟨hcz5_0, hcz5_1⟩ := ce2 BK510; obtain ⟨hfz5_0, hfz5_1⟩ := fz2 BK510) | ((with_reducible refine gate_callee (f := 222) rfl ?_); refine goesL_ (some 6) rfl rfl Tryz.func222 (by kernel_rfl) rfl #[.string a0_1] rfl am ?_; (with_reducible refine (addr_domain.calls a0_1 t511 _ A2.out).mono ?_); rintro e w6 ⟨rfl, hb⟩; refine ⟨_, rfl, ?_⟩; have n0_ := Aside0.mk (blk_below (g := gb510) (o := .cells #[.string a0_0, .string a0_1] 30 (0, 0)) bk hb); have n1_ := Aside0.mk (below_step bwS hb); clear BK510; clear HB; have BK510 := n0_; have HB := n1_; clear n0_ n1_; (try clear hb); (try clear hb2); (try clear hk); (try clear hi)))
 (try simp only [Act.put, sa_, sz_, ss_])
 go_cut [19] (fun v19 wc => ∃ (kq : Nat) (x19_2 : Bool), v19 = .bool x19_2 ∧ Aside0 (addr_why.j0 kq t511 x19_2 a0_0 a0_1 = some r) ∧ Aside0 (kq ≤ k) ∧ Aside0 (wc.heap[gb510]? = some (.cells #[.string a0_0, .string a0_1] 30 (0, 0))) ∧ Aside0 (Below w.heap.size w wc))
 case first =>
  have H := HC3.out; clear HC3
  by_cases c7 : t511 = 130
  ·rw [if_pos c7] at H; have c7b0 := beq_iff_eq.mpr c7; have c7b1 := bne_eq_false_iff_eq.mpr c7; clear c7
   (first | rw [c7b0] | (simp only [i64_w, i32_w]; rw [c7b0]) | skip)
   have H' := Aside0.mk H; clear H
   go_wp2
   go_meet
   case rel => exact ⟨_, (true), cl, H', ⟨by first | omega | exact Nat.le_refl _⟩, ⟨bk⟩, ⟨bwS⟩⟩
  rw [if_neg c7] at H; have c7b0 := beq_eq_false_iff_ne.mpr c7; have c7b1 := bne_iff_ne.mpr c7
  (first | rw [c7b0] | (simp only [i64_w, i32_w]; rw [c7b0]) | skip)
  by_cases c8 : a0_0.toList = ([] : List UInt8)
  ·rw [if_pos c8] at H; have c8b0 := beq_iff_eq.mpr c8; have c8b1 := bne_eq_false_iff_eq.mpr c8; clear c8; have H' := Aside0.mk H; clear H; obtain ⟨hcz9_0, hcz9_1, hfz9_0, hfz9_1⟩ := bk2 BK510.out
   go_wp2
   go_meet
   case rel => exact ⟨_, (true), cl, H', ⟨by first | omega | exact Nat.le_refl _⟩, ⟨bk⟩, ⟨bwS⟩⟩
  rw [if_neg c8] at H; have c8b0 := beq_eq_false_iff_ne.mpr c8; have c8b1 := bne_iff_ne.mpr c8; replace H := Option.bind_eq_some_iff.mp H; obtain ⟨t512, A100, H⟩ := H; have A10 := Aside0.mk A100; clear A100; have H' := Aside0.mk H; clear H; obtain ⟨hcz11_0, hcz11_1, hfz11_0, hfz11_1⟩ := bk2 BK510.out
  go_wp2_with (first | (go_at_call 64; (with_reducible refine (glyph_Plain.calls a0_0 t512 _ A10.out).mono ?_); rintro e w12 ⟨rfl, hb⟩; have n0_ := Aside0.mk (blk_below (g := gb510) (o := .cells #[.string a0_0, .string a0_1] 30 (0, 0)) bk hb); have n1_ := Aside0.mk (below_step bwS hb); clear BK510; clear HB; have BK510 := n0_; have HB := n1_; clear n0_ n1_; (try clear hb); (try clear hb2); (try clear hk); (try clear hi)))
  go_meet
  case rel => exact ⟨_, (!t512), cl, H', ⟨by first | omega | exact Nat.le_refl _⟩, ⟨bk⟩, ⟨bwS⟩⟩
 case rest =>
  clear HC3
  try clear c2
  try clear p2
  try clear c7
  try clear c7b0
  try clear c7b1
  try clear c8
  try clear c8b0
  try clear c8b1
  try clear hcz11_0
  try clear hcz11_1
  try clear hcz5_0
  try clear hcz5_1
  try clear hcz9_0
  try clear hcz9_1
  try clear hfz11_0
  try clear hfz11_1
  try clear hfz5_0
  try clear hfz5_1
  try clear hfz9_0
  try clear hfz9_1
  obtain ⟨kq, x19_2, rfl, HA, HJ2, BK510, HB⟩ := hcut; cases kq with
  | zero => exact absurd HA.out (by simp [addr_why.j0])
  | succ kj2 =>
   have H := HA.out; clear HA; simp only [addr_why.j0] at H
   by_cases c13 : x19_2 = true
   ·subst c13; rw [if_pos rfl] at H; obtain rfl := Option.some.inj H
    go_wp2
    go_ret
    exact ⟨ew, bwS⟩
   replace c13 := Bool.eq_false_iff.mpr c13; subst c13; rw [if_neg nft] at H
   by_cases c14 : t511 = 0
   ·rw [if_pos c14] at H; have c14b0 := beq_iff_eq.mpr c14; have c14b1 := bne_eq_false_iff_eq.mpr c14; clear c14
    by_cases c15 : (a0_0.size : Int) > 64
    ·rw [if_pos c15] at H; have c15b0 : decide (64 < (a0_0.size : Int)) = true := decide_eq_true c15; have c15b1 : decide (64 < a0_0.size) = true := decide_eq_true (by omega); clear c15; obtain rfl := Option.some.inj H; obtain ⟨hcz16_0, hcz16_1, hfz16_0, hfz16_1⟩ := bk2 BK510.out
     go_wp2
     go_ret
     exact ⟨ew, bwS⟩
    rw [if_neg c15] at H; have c15b0 : decide (64 < (a0_0.size : Int)) = false := decide_eq_false c15; have c15b1 : decide (64 < a0_0.size) = false := decide_eq_false (by omega); clear c15; replace H := Option.bind_eq_some_iff.mp H; obtain ⟨t513, A170, H⟩ := H; have A17 := Aside0.mk A170; clear A170
    by_cases c18 : (t513.size : Int) > 254
    ·rw [if_pos c18] at H; have c18b0 : decide (254 < (t513.size : Int)) = true := decide_eq_true c18; have c18b1 : decide (254 < t513.size) = true := decide_eq_true (by omega); clear c18; obtain rfl := Option.some.inj H; obtain ⟨hcz19_0, hcz19_1, hfz19_0, hfz19_1⟩ := bk2 BK510.out
     go_wp2_with (first | (go_at_call 28; (with_reducible refine (addr_Addr_Text.calls kj2 a0_0 a0_1 t513 _ A17.out).mono ?_); rintro e w20 ⟨rfl, hb⟩; have n0_ := Aside0.mk (blk_below (g := gb510) (o := .cells #[.string a0_0, .string a0_1] 30 (0, 0)) bk hb); have n1_ := Aside0.mk (below_step bwS hb); clear BK510; clear HB; have BK510 := n0_; have HB := n1_; clear n0_ n1_; (try clear hb); (try clear hb2); (try clear hk); (try clear hi)))
     go_ret
     exact ⟨ew, bwS⟩
    rw [if_neg c18] at H; have c18b0 : decide (254 < (t513.size : Int)) = false := decide_eq_false c18; have c18b1 : decide (254 < t513.size) = false := decide_eq_false (by omega); clear c18; obtain rfl := Option.some.inj H; obtain ⟨hcz21_0, hcz21_1, hfz21_0, hfz21_1⟩ := bk2 BK510.out
    go_wp2_with (first | (go_at_call 28; (with_reducible refine (addr_Addr_Text.calls kj2 a0_0 a0_1 t513 _ A17.out).mono ?_); rintro e w22 ⟨rfl, hb⟩; have n0_ := Aside0.mk (blk_below (g := gb510) (o := .cells #[.string a0_0, .string a0_1] 30 (0, 0)) bk hb); have n1_ := Aside0.mk (below_step bwS hb); clear BK510; clear HB; have BK510 := n0_; have HB := n1_; clear n0_ n1_; (try clear hb); (try clear hb2); (try clear hk); (try clear hi)))
    go_ret
    exact ⟨ew, bwS⟩
   rw [if_neg c14] at H; have c14b0 := beq_eq_false_iff_ne.mpr c14; have c14b1 := bne_iff_ne.mpr c14; obtain rfl := Option.some.inj H
   go_wp2
   go_ret
   exact ⟨ew, bwS⟩
def addr_Addr_Key.f (k : Nat) (a0_0 : ByteArray) (a0_1 : ByteArray) : Option (ByteArray) := (addr_Addr_Text.f k a0_0 a0_1).bind fun t591 => ((glyph_Fold.f t591).bind fun t592 => (some t592))
set_option maxRecDepth 100000 in
theorem addr_Addr_Key.calls (k : Nat) (a0_0 : ByteArray) (a0_1 : ByteArray) (r : ByteArray) (w : World) (h : addr_Addr_Key.f k a0_0 a0_1 = some r) :
  Calls Tryz.prog 92 #[.agg #[.string a0_0, .string a0_1]] w fun e w' => e = .returned (.string r) ∧ Below w.heap.size w w' := by
 have hu30 := Tryz.underlying30; have HB := Aside0.mk (Below.refl w.heap.size w); have H : ((addr_Addr_Text.f k a0_0 a0_1).bind fun t591 => ((glyph_Fold.f t591).bind fun t592 => (some t592))) = some r := h; clear h; replace H := Option.bind_eq_some_iff.mp H; obtain ⟨t591, A20, H⟩ := H; have A2 := Aside0.mk A20; clear A20; replace H := Option.bind_eq_some_iff.mp H; obtain ⟨t592, A30, H⟩ := H; have A3 := Aside0.mk A30; clear A30; obtain rfl := Option.some.inj H
 go_enter Tryz.func92, Tryz.ntmps92
 go_wp2_with (first | ((with_reducible refine gate_dst (N := 1) rfl ?_); refine box_event ?hg (N := 1) ?hd (cs := #[.string a0_0, .string a0_1]) (t := 30) ?hr ?_; (case hd => rfl); (case hg => rfl); (case hr => first | (go_simp; done) | (go_simp; rfl)); intro gb590 hg w4 hbox hb; have n0_ := Aside0.mk (below_step bw hb); have n1_ := Aside0.mk (hbox); have n2_ := Aside0.mk ((by rw [hg]; exact (below_size bw) : w.heap.size ≤ gb590)); have n3_ := Aside0.mk ((by rw [hg]; exact (below_size bw) : w.heap.size ≤ gb590)); clear HB; have HB := n0_; have BK590 := n1_; have GW590 := n2_; have GE590 := n3_; clear n0_ n1_ n2_ n3_; clear hb hbox hg; obtain ⟨hcz5_0, hcz5_1⟩ := ce2 BK590; obtain ⟨hfz5_0, hfz5_1⟩ := fz2 BK590) | ((with_reducible refine gate_callee (f := 28) rfl ?_); refine goesL_ (some 4) rfl rfl Tryz.func28 (by kernel_rfl) rfl #[.agg #[.string a0_0, .string a0_1]] rfl am ?_; (with_reducible refine (addr_Addr_Text.calls k a0_0 a0_1 t591 _ A2.out).mono ?_); rintro e w6 ⟨rfl, hb⟩; refine ⟨_, rfl, ?_⟩; have n0_ := Aside0.mk (blk_below (g := gb590) (o := .cells #[.string a0_0, .string a0_1] 30 (0, 0)) bk hb); have n1_ := Aside0.mk (below_step bwS hb); clear BK590; clear HB; have BK590 := n0_; have HB := n1_; clear n0_ n1_; (try clear hb); (try clear hb2); (try clear hk); (try clear hi)) | ((with_reducible refine gate_callee (f := 18) rfl ?_); refine goesL_ (some 5) rfl rfl Tryz.func18 (by kernel_rfl) rfl #[.string t591] rfl am ?_; (with_reducible refine (glyph_Fold.calls t591 t592 _ A3.out).mono ?_); rintro e w7 ⟨rfl, hb⟩; refine ⟨_, rfl, ?_⟩; have n0_ := Aside0.mk (blk_below (g := gb590) (o := .cells #[.string a0_0, .string a0_1] 30 (0, 0)) bk hb); have n1_ := Aside0.mk (below_step bwS hb); clear BK590; clear HB; have BK590 := n0_; have HB := n1_; clear n0_ n1_; (try clear hb); (try clear hb2); (try clear hk); (try clear hi)))
 go_ret
 exact ⟨ew, bwS⟩
def conf_List_Mod.l0 : Nat → List (S30) → Int → Int → ByteArray → ByteArray → Option (Bool)
 | 0, _, _, _, _, _ => none
 | k + 1, x8, x9, x10, x595000, x595001 => if x10 < x9 then (if 0 ≤ x10 then (if x10 < (x8.length : Int) then ((addr_Addr_Key.f k x595000 x595001).bind fun t597 => ((addr_Addr_Key.f k ((rd_T30 x8 x10).f0) ((rd_T30 x8 x10).f1)).bind fun t598 => (if t597.toList = t598.toList then (some true) else (conf_List_Mod.l0 k x8 x9 (wrap64 (x10 + 1)) x595000 x595001)))) else (none)) else (none)) else (some false)
def conf_List_Mod.f (k : Nat) (a0_0 : ByteArray) (a0_1 : ByteArray) (a0_2 : Int) (l0_3 : List (S30)) (l0_4 : List (S30)) (l0_5 : List (S30)) (a0_6 : Int) (a0_7 : Int) (a0_8 : Bool) (a1_0 : ByteArray) (a1_1 : ByteArray) : Option (Bool) := conf_List_Mod.l0 k l0_3 (l0_3.length : Int) 0 a1_0 a1_1
set_option maxRecDepth 100000 in
theorem conf_List_Mod.calls (k : Nat) (n t : ByteArray) (post : Int) (A3 : Option Addr) (c3 : Nat) (l3 : List S30) (A4 : Option Addr) (c4 : Nat) (l4 : List S30) (A5 : Option Addr) (c5 : Nat) (l5 : List S30) (dg sc : Int) (ar : Bool) (a b : ByteArray) (r : Bool) (w : World) (hr0_3 : Kd.C k30 w A3 l3.length l3) (hc0_3 : l3.length ≤ c3) (hr0_4 : Kd.C k30 w A4 l4.length l4) (hc0_4 : l4.length ≤ c4) (hr0_5 : Kd.C k30 w A5 l5.length l5) (hc0_5 : l5.length ≤ c5) (h : conf_List_Mod.f k n t post l3 l4 l5 dg sc ar a b = some r) :
  Calls Tryz.prog 52 #[.agg #[.string n, .string t, .int .i64 post, .slice A3 l3.length c3, .slice A4 l4.length c4, .slice A5 l5.length c5, .int .i64 dg, .int .i64 sc, .bool ar], .agg #[.string a, .string b]] w fun e w' => e = .returned (.bool r) ∧ Below w.heap.size w w' := by
 have hu46 := Tryz.underlying46; have hu30 := Tryz.underlying30; have HB := Aside0.mk (Below.refl w.heap.size w); have HR := Aside0.mk hr0_3; have H0 := Aside0.mk (show conf_List_Mod.l0 k l3 (l3.length : Int) ((0 : Nat) : Int) a b = some r from h); clear h hr0_3 hr0_4 hr0_5 hc0_3 hc0_4 hc0_5
 go_enter Tryz.func52, Tryz.ntmps52
 go_wp2_with (first | ((with_reducible refine gate_dst (N := 2) rfl ?_); refine box_event ?hg (N := 2) ?hd (cs := #[.string n, .string t, .int .i64 post, .slice A3 l3.length c3, .slice A4 l4.length c4, .slice A5 l5.length c5, .int .i64 dg, .int .i64 sc, .bool ar]) (t := 46) ?hr ?_; (case hd => rfl); (case hg => rfl); (case hr => first | (go_simp; done) | (go_simp; rfl)); intro gl hg w8 hbox hb; have x1_ := Aside0.mk ((by rw [hg]; exact HB.out.size : w.heap.size ≤ gl)); have x0_ := Aside0.mk hbox; have n0_ := Aside0.mk (below_step HB.out hb); clear HB  hb; have HB := n0_; clear n0_ ; have GE_gl := x1_; have B_gl := x0_; clear x0_ x1_ hbox hg) | ((with_reducible refine gate_dst (N := 3) rfl ?_); refine box_event ?hg (N := 3) ?hd (cs := #[.string a, .string b]) (t := 30) ?hr ?_; (case hd => rfl); (case hg => rfl); (case hr => first | (go_simp; done) | (go_simp; rfl)); intro ga hg w9 hbox hb; have x1_ := Aside0.mk ((by rw [hg]; exact HB.out.size : w.heap.size ≤ ga)); have x0_ := Aside0.mk hbox; have n0_ := Aside0.mk (below_step HB.out hb); have n1_ := Aside0.mk (blk_below B_gl.out hb); clear HB B_gl hb; have HB := n0_; have B_gl := n1_; clear n0_ n1_; have GE_ga := x1_; have B_ga := x0_; clear x0_ x1_ hbox hg; obtain ⟨hcl_0, hcl_1, hcl_2, hcl_3, hcl_4, hcl_5, hcl_6, hcl_7, hcl_8⟩ := ce9 B_gl; obtain ⟨hfl_0, hfl_1, hfl_2, hfl_3, hfl_4, hfl_5, hfl_6, hfl_7, hfl_8⟩ := fz9 B_gl))
 (try clear hcl_0 hfl_0 hcl_1 hfl_1 hcl_2 hfl_2 hcl_3 hfl_3 hcl_4 hfl_4 hcl_5 hfl_5 hcl_6 hfl_6 hcl_7 hfl_7 hcl_8 hfl_8)
 clear B_gl
 go_loopg [10] k (fun kq v10 wr => ∃ i : Nat, v10 = .int .i64 i ∧ i ≤ l3.length ∧ Aside0 (conf_List_Mod.l0 kq l3 (l3.length : Int) (i : Int) a b = some r) ∧ Aside0 (wr.heap[ga]? = some (.cells #[.string a, .string b] 30 (0, 0))) ∧ Aside0 (Below w.heap.size w wr))
 case atStart => exact ⟨0, rfl, Nat.zero_le _, H0, B_ga, HB⟩
 case round =>
  clear H0 B_ga HB; obtain ⟨i, rfl, hi, H0, B_ga, HB⟩ := hrel; cases gk with
  | zero => exact absurd H0.out (by simp [conf_List_Mod.l0])
  | succ k2 =>
   have H := H0.out; clear H0; rw [conf_List_Mod.l0] at H
   by_cases hlt : i < l3.length
   ·rw [if_pos (by omega), if_pos (by omega), if_pos (by omega)] at H; obtain ⟨t1, hk1, H⟩ := Option.bind_eq_some_iff.mp H; obtain ⟨t2, hk2, H⟩ := Option.bind_eq_some_iff.mp H; obtain ⟨ad, e1, hx0, hx1⟩ := at_T30 HR.out (i : Int) (by omega) (by omega); cases e1; replace hx0 := hbc HB hx0; replace hx1 := hbc HB hx1; rw [Int.toNat_natCast] at hx0 hx1
    generalize rd_T30 l3 (i : Int) = y at hk2 hx0 hx1
    obtain ⟨y0, y1⟩ := y
    dsimp only at hk2 hx0 hx1
    have K1 := Aside0.mk hk1; have K2 := Aside0.mk hk2; clear hk1 hk2; have q1 : ((0 : Int) ≤ (i : Int)) = True := eq_true (by omega); have q2 : ((i : Int) < (l3.length : Int)) = True := eq_true (by omega); have q3 : decide ((i : Int) < (l3.length : Int)) = true := decide_eq_true (by omega); have q4 : decide (i < l3.length) = true := decide_eq_true hlt
    by_cases ht : t1.toList = t2.toList
    ·rw [if_pos ht] at H; have d0 : (t1.toList == t2.toList) = true := beq_iff_eq.mpr ht; obtain rfl := Option.some.inj H; clear H ht
     go_upto_region 4 with ((with_reducible refine gate_dst (N := 6) rfl ?_); refine box_event ?hg (N := 6) ?hd (cs := #[.string (⟨#[]⟩ : ByteArray), .string (⟨#[]⟩ : ByteArray)]) (t := 30) ?hr ?_; (case hd => rfl); (case hg => rfl); (case hr => first | (go_simp; done) | (go_simp; rfl)); intro gy hg w10 hbox hb; have s0_ := (hb.cell (World.block_lt_of_cell? _ _ hx0)).trans hx0; have s1_ := (hb.cell (World.block_lt_of_cell? _ _ hx1)).trans hx1; have x1_ := Aside0.mk ((by rw [hg]; exact HB.out.size : w.heap.size ≤ gy)); have y0_ := Aside0.mk ((by rw [hg]; exact Nat.ne_of_lt (blk_lt B_ga.out) : ga ≠ gy)); have x0_ := Aside0.mk hbox; have n0_ := Aside0.mk (below_step HB.out hb); have n1_ := Aside0.mk (blk_below B_ga.out hb); clear HB B_ga hb; have HB := n0_; have B_ga := n1_; clear n0_ n1_; have GE_gy := x1_; have B_gy := x0_; clear x0_ x1_ hbox hg; have NY := y0_; clear y0_; clear hx0 hx1; have hx0 := s0_; have hx1 := s1_; clear s0_ s1_; obtain ⟨hcy_0, hcy_1⟩ := ce2 B_gy; obtain ⟨hfy_0, hfy_1⟩ := fz2 B_gy)
     (try clear hcy_0 hfy_0 hcy_1 hfy_1)
     have n0_ : Aside0 (Below w.heap.size w ((w10.setCell ⟨gy, 0, none⟩ (.string y0)).setCell ⟨gy, 1, none⟩ (.string y1))) := ⟨(HB.out.setCell (p := ⟨gy, 0, none⟩) GE_gy.out _).setCell (p := ⟨gy, 1, none⟩) GE_gy.out _⟩
     have n1_ : Aside0 (((w10.setCell ⟨gy, 0, none⟩ (.string y0)).setCell ⟨gy, 1, none⟩ (.string y1)).heap[ga]? = some (.cells #[.string a, .string b] 30 (0, 0))) := ⟨by refine blk_far ?_ NY.out _; refine blk_far ?_ NY.out _; exact B_ga.out⟩
     have n2_ : Aside0 (((w10.setCell ⟨gy, 0, none⟩ (.string y0)).setCell ⟨gy, 1, none⟩ (.string y1)).heap[gy]? = some (.cells #[.string y0, .string y1] 30 (0, 0))) := ⟨by refine blk_put (cs := #[.string y0, .string (⟨#[]⟩ : ByteArray)]) ?_ 1 _ rfl; refine blk_put (cs := #[.string (⟨#[]⟩ : ByteArray), .string (⟨#[]⟩ : ByteArray)]) ?_ 0 _ rfl; exact B_gy.out⟩
     clear HB B_ga B_gy hx0 hx1; generalize ((w10.setCell ⟨gy, 0, none⟩ (.string y0)).setCell ⟨gy, 1, none⟩ (.string y1)) = w11 at n0_ n1_ n2_ ⊢
     have HB := n0_; have B_ga := n1_; have B_gy := n2_; clear n0_ n1_ n2_; refine wp_quiet_below (by kernel_rfl) (by kernel_rfl) ?_
     repeat (refine wpQuiet_step (fun K hK => ?_); go_simp; first | (refine hK _ ?_; clear hK K) | (apply Exists.intro; refine ⟨fun w_ hw_ => ?_, hK _ ?_⟩; (first | (go_at_call 92; (with_reducible refine (addr_Addr_Key.calls k2 a b t1 _ K1.out).mono ?_); rintro e w'_ ⟨rfl, hb⟩; exact ⟨rfl, grown_step hw_ hb⟩) | (go_at_call 92; (with_reducible refine (addr_Addr_Key.calls k2 y0 y1 t2 _ K2.out).mono ?_); rintro e w'_ ⟨rfl, hb⟩; exact ⟨rfl, grown_step hw_ hb⟩) | rfl | (have f1_ := Aside0.mk (grown_blk hw_ B_ga.out); have f2_ := Aside0.mk (grown_blk hw_ B_gy.out); obtain ⟨hca_0, hca_1⟩ := ce2 f1_; obtain ⟨hcy_0, hcy_1⟩ := ce2 f2_; go_simp; first | done | rfl)); clear hK K))
     refine wpQuiet_nil ?_; intro w12 hw'; have n0_ := Aside0.mk (grown_below hw' HB.out HB.out.size); have n1_ := Aside0.mk (grown_blk hw' B_ga.out)
     go_wp2
     go_ret
     exact ⟨rfl, n0_.out⟩
    rw [if_neg ht] at H; have d0 : (t1.toList == t2.toList) = false := beq_eq_false_iff_ne.mpr ht; have hw1 : wrap64 ((i : Int) + 1) = ((i + 1 : Nat) : Int) := by rw [Pl.wrap_id (by omega) (by have := HR.out.2.1; omega)]; omega
    rw [hw1] at H; have HH := Aside0.mk H; clear H ht
    go_upto_region 4 with ((with_reducible refine gate_dst (N := 6) rfl ?_); refine box_event ?hg (N := 6) ?hd (cs := #[.string (⟨#[]⟩ : ByteArray), .string (⟨#[]⟩ : ByteArray)]) (t := 30) ?hr ?_; (case hd => rfl); (case hg => rfl); (case hr => first | (go_simp; done) | (go_simp; rfl)); intro gy hg w10 hbox hb; have s0_ := (hb.cell (World.block_lt_of_cell? _ _ hx0)).trans hx0; have s1_ := (hb.cell (World.block_lt_of_cell? _ _ hx1)).trans hx1; have x1_ := Aside0.mk ((by rw [hg]; exact HB.out.size : w.heap.size ≤ gy)); have y0_ := Aside0.mk ((by rw [hg]; exact Nat.ne_of_lt (blk_lt B_ga.out) : ga ≠ gy)); have x0_ := Aside0.mk hbox; have n0_ := Aside0.mk (below_step HB.out hb); have n1_ := Aside0.mk (blk_below B_ga.out hb); clear HB B_ga hb; have HB := n0_; have B_ga := n1_; clear n0_ n1_; have GE_gy := x1_; have B_gy := x0_; clear x0_ x1_ hbox hg; have NY := y0_; clear y0_; clear hx0 hx1; have hx0 := s0_; have hx1 := s1_; clear s0_ s1_; obtain ⟨hcy_0, hcy_1⟩ := ce2 B_gy; obtain ⟨hfy_0, hfy_1⟩ := fz2 B_gy)
    (try clear hcy_0 hfy_0 hcy_1 hfy_1)
    have n0_ : Aside0 (Below w.heap.size w ((w10.setCell ⟨gy, 0, none⟩ (.string y0)).setCell ⟨gy, 1, none⟩ (.string y1))) := ⟨(HB.out.setCell (p := ⟨gy, 0, none⟩) GE_gy.out _).setCell (p := ⟨gy, 1, none⟩) GE_gy.out _⟩
    have n1_ : Aside0 (((w10.setCell ⟨gy, 0, none⟩ (.string y0)).setCell ⟨gy, 1, none⟩ (.string y1)).heap[ga]? = some (.cells #[.string a, .string b] 30 (0, 0))) := ⟨by refine blk_far ?_ NY.out _; refine blk_far ?_ NY.out _; exact B_ga.out⟩
    have n2_ : Aside0 (((w10.setCell ⟨gy, 0, none⟩ (.string y0)).setCell ⟨gy, 1, none⟩ (.string y1)).heap[gy]? = some (.cells #[.string y0, .string y1] 30 (0, 0))) := ⟨by refine blk_put (cs := #[.string y0, .string (⟨#[]⟩ : ByteArray)]) ?_ 1 _ rfl; refine blk_put (cs := #[.string (⟨#[]⟩ : ByteArray), .string (⟨#[]⟩ : ByteArray)]) ?_ 0 _ rfl; exact B_gy.out⟩
    clear HB B_ga B_gy hx0 hx1; generalize ((w10.setCell ⟨gy, 0, none⟩ (.string y0)).setCell ⟨gy, 1, none⟩ (.string y1)) = w11 at n0_ n1_ n2_ ⊢
    have HB := n0_; have B_ga := n1_; have B_gy := n2_; clear n0_ n1_ n2_; refine wp_quiet_below (by kernel_rfl) (by kernel_rfl) ?_
    repeat (refine wpQuiet_step (fun K hK => ?_); go_simp; first | (refine hK _ ?_; clear hK K) | (apply Exists.intro; refine ⟨fun w_ hw_ => ?_, hK _ ?_⟩; (first | (go_at_call 92; (with_reducible refine (addr_Addr_Key.calls k2 a b t1 _ K1.out).mono ?_); rintro e w'_ ⟨rfl, hb⟩; exact ⟨rfl, grown_step hw_ hb⟩) | (go_at_call 92; (with_reducible refine (addr_Addr_Key.calls k2 y0 y1 t2 _ K2.out).mono ?_); rintro e w'_ ⟨rfl, hb⟩; exact ⟨rfl, grown_step hw_ hb⟩) | rfl | (have f1_ := Aside0.mk (grown_blk hw_ B_ga.out); have f2_ := Aside0.mk (grown_blk hw_ B_gy.out); obtain ⟨hca_0, hca_1⟩ := ce2 f1_; obtain ⟨hcy_0, hcy_1⟩ := ce2 f2_; go_simp; first | done | rfl)); clear hK K))
    refine wpQuiet_nil ?_; intro w12 hw'; have n0_ := Aside0.mk (grown_below hw' HB.out HB.out.size); have n1_ := Aside0.mk (grown_blk hw' B_ga.out)
    go_wp2
    go_roundg k2
    case rel => exact ⟨i + 1, by first | rfl | (simp [hw1]; done) | go_num, by omega, HH, n1_, n0_⟩
    case measure => omega
   rw [if_neg (by omega)] at H; obtain rfl := Option.some.inj H; have q3 : decide ((i : Int) < (l3.length : Int)) = false := decide_eq_false (by omega); have q2 : ((i : Int) < (l3.length : Int)) = False := eq_false (by omega); have q4 : decide (i < l3.length) = false := decide_eq_false hlt
   go_wp2
   go_ret
   exact ⟨rfl, HB.out⟩
end Go.Proofs.YtcndmhpeolbepaaGreatDoor.Fn
namespace Go.Proofs.YtcndmhpeolbepaaGreatDoor.Pl
open Go.Proofs.YtcndmhpeolbepaaGreatDoor.Fn
/-! Layer 13, the program's, over lists of bytes. -/
theorem mono_up {α : Type} {f : Nat → Option α} (h : ∀ k, LeO (f k) (f (k + 1))) {r : α} {k : Nat} (hr : f k = some r) : ∀ (k' : Nat), k ≤ k' → f k' = some r := by
  intro k' hk
  obtain ⟨d, rfl⟩ : ∃ d, k' = k + d := ⟨k' - k, by omega⟩
  clear hk
  induction d with
  | zero => exact hr
  | succ d ih => exact h (k + d) r ih
def splitL (c : UInt8) : Bytes → List Bytes
  | [] => [[]]
  | x :: l => if x = c then [] :: splitL c l else match splitL c l with
    | [] => [[x]]
    | w :: r => (x :: w) :: r
theorem indexByte_neg (c : UInt8) : ∀ l : Bytes, Lib.indexByte l c < 0 → splitL c l = [l]
  | [], _ => rfl
  | b :: l, h => by
    rw [Lib.indexByte] at h
    have hb : ¬ (b == c) = true := fun q => by rw [if_pos q] at h; omega
    rw [if_neg hb] at h
    by_cases h2 : (Lib.indexByte l c == -1) = true
    · have h3 : Lib.indexByte l c = -1 := by simpa using h2
      rw [splitL, if_neg (by simpa using hb), indexByte_neg c l (by omega)]
    · rw [if_neg h2] at h
      have := Lib.indexByte_ge l c
      have h4 : Lib.indexByte l c ≠ -1 := by simpa using h2
      omega
theorem indexByte_nat (c : UInt8) : ∀ (l : Bytes) (n : Nat), Lib.indexByte l c = n → splitL c l = l.take n :: splitL c (l.drop (n + 1))
  | [], n, h => by simp [Lib.indexByte] at h
  | b :: l, n, h => by
    rw [Lib.indexByte] at h
    by_cases hb : (b == c) = true
    · rw [if_pos hb] at h
      obtain rfl : n = 0 := by omega
      rw [splitL, if_pos (by simpa using hb)]
      simp
    · rw [if_neg hb] at h
      by_cases h2 : (Lib.indexByte l c == -1) = true
      · rw [if_pos h2] at h; omega
      · rw [if_neg h2] at h
        have h3 := Lib.indexByte_ge l c
        have h4 : Lib.indexByte l c ≠ -1 := by simpa using h2
        obtain ⟨m, rfl⟩ : ∃ m, n = m + 1 := ⟨n - 1, by omega⟩
        have ih := indexByte_nat c l m (by omega)
        rw [splitL, if_neg (by simpa using hb), ih]
        simp
theorem cuts_split (c : UInt8) : ∀ (n : Nat) (s : ByteArray), s.size ≤ n → (cuts (findOne c) 1 s).map bs = splitL c (bs s)
  | n, s, hn => by
    by_cases h0 : findOne c s < 0
    · rw [cuts_last (finds_one c) s h0, indexByte_neg c (bs s) h0]
      rfl
    · obtain ⟨N, hN⟩ : ∃ N : Nat, findOne c s = (N : Int) := ⟨(findOne c s).toNat, by omega⟩
      have hfit := (finds_one c).fits s (by omega)
      rw [hN] at hfit
      simp only [Int.toNat_natCast] at hfit
      rw [cuts_more (finds_one c) s h0, hN, indexByte_nat c (bs s) N hN]
      obtain ⟨n, rfl⟩ : ∃ m, n = m + 1 := ⟨n - 1, by omega⟩
      have ih := cuts_split c n (s.extract (N + 1) s.size) (by simp only [ByteArray.size_extract]; omega)
      simp only [Int.toNat_natCast, List.map_cons, ih, bs_extract, List.drop_zero]
      rw [List.take_of_length_le (i := s.size) (by rw [bs_length]; exact Nat.le_refl _)]
theorem dots_split (s : ByteArray) : (dots s).map bs = splitL 46 (bs s) := cuts_split 46 s.size s (Nat.le_refl _)
theorem all_map_bs (p : Bytes → Bool) (l : List ByteArray) : (l.map bs).all p = l.all (fun x => p (bs x)) := by
  rw [List.all_map]; rfl
def atomL (w : Bytes) : Bool := w.all atomic && !w.isEmpty
def dottedL (l : Bytes) : Bool := (splitL 46 l).all atomL
theorem dotted_L (s : ByteArray) : dotted s = dottedL (bs s) := by
  unfold dotted dottedL
  rw [← dots_split, all_map_bs]
  rfl
/-! Quote -/
def text (c : UInt8) : Bool := (lex_text.f (c.toNat : Int)).getD false
theorem text_is (c : UInt8) : lex_text.f (c.toNat : Int) = some (text c) := by
  have : ∀ x : Int, (lex_text.f x).isSome := by
    intro x
    unfold lex_text.f
    repeat' split
    all_goals rfl
  unfold text
  have h := this (c.toNat : Int)
  cases hx : lex_text.f (c.toNat : Int) with
  | none => rw [hx] at h; cases h
  | some b => rfl
def qB (c : UInt8) : Bytes := if c = 34 ∨ c = 92 then [92, c] else if text c = true then [c] else [32]
def quote (l : Bytes) : Bytes := 34 :: (l.flatMap qB ++ [34])
def numsOf (l : Bytes) : List Int := l.map fun c => (c.toNat : Int)
theorem strOfNums_of (l : Bytes) : strOfNums (numsOf l) = str l := by
  unfold strOfNums numsOf str
  congr 2
  rw [List.map_map]
  conv => rhs; rw [← List.map_id l]
  apply List.map_congr_left
  intro c _
  simp
theorem numsOf_app (a b : Bytes) : numsOf (a ++ b) = numsOf a ++ numsOf b := by simp [numsOf]
theorem numsOf_length (a : Bytes) : (numsOf a).length = a.length := by simp [numsOf]
theorem byte_eq (c : UInt8) (n : Nat) (h : n < 256) : ((c.toNat : Int) = (n : Int)) = (c = UInt8.ofNat n) := by
  apply propext
  constructor
  · intro q
    apply UInt8.toNat_inj.1
    simp
    omega
  · intro q
    rw [q]
    simp
    omega
theorem lexQuote_l0 (s : ByteArray) (hs : s.size ≤ 1000000000) : ∀ (rest : Bytes) (i k : Nat) (acc : Bytes), (bs s).drop i = rest → i ≤ (bs s).length → 2 * rest.length + 1 ≤ k → acc.length ≤ 2 * i + 1 →
    lex_Quote.l0 k s (numsOf acc) (s.size : Int) (i : Int) = some (str (acc ++ rest.flatMap qB ++ [34]))
  | [], i, k, acc, hd, hi, hk, ha => by
    obtain ⟨k, rfl⟩ : ∃ j, k = j + 1 := ⟨k - 1, by omega⟩
    have := drop_nil hd
    rw [bs_length] at this hi
    rw [lex_Quote.l0, if_neg (by omega), if_pos (by rw [numsOf_length]; omega)]
    rw [show numsOf acc ++ [34] = numsOf (acc ++ [34]) by rw [numsOf_app]; rfl, strOfNums_of]
    simp
  | c :: rest, i, k, acc, hd, hi, hk, ha => by
    obtain ⟨k, rfl⟩ : ∃ j, k = j + 1 + 1 := ⟨k - 2, by simp at hk; omega⟩
    obtain ⟨h1, h2, h3, h4⟩ := drop_cons hd
    have h5 : i < s.size := by rw [bs_length] at h1; exact h1
    simp only [List.length_cons] at hk
    have e34 : ((c.toNat : Int) = 34) = (c = 34) := byte_eq c 34 (by decide)
    have e92 : ((c.toNat : Int) = 92) = (c = 92) := byte_eq c 92 (by decide)
    have goon : ∀ acc' : Bytes, acc'.length ≤ acc.length + 2 → lex_Quote.l0 k s (numsOf acc') (s.size : Int) (wrap64 ((i : Int) + 1)) = some (str (acc' ++ rest.flatMap qB ++ [34])) := by
      intro acc' hl
      rw [wrap_succ i (by omega)]
      exact lexQuote_l0 s hs rest (i + 1) k acc' h3 (by omega) (by omega) (by omega)
    have hl1 : (numsOf acc).length < 140737488355328 := by rw [numsOf_length]; omega
    have esc : c = 34 ∨ c = 92 → lex_Quote.j1 (k + 1) s (numsOf acc) (c.toNat : Int) (s.size : Int) (i : Int) true = some (str (acc ++ (c :: rest).flatMap qB ++ [34])) := by
      intro hc
      rw [lex_Quote.j1, if_pos rfl, if_pos hl1]
      simp only [Option.bind_some]
      rw [if_pos (by rw [List.length_append, numsOf_length]; simp; omega)]
      rw [show numsOf acc ++ [92] ++ [(c.toNat : Int)] = numsOf (acc ++ [92, c]) by simp [numsOf], goon _ (by simp)]
      simp [qB, hc]
    rw [lex_Quote.l0, if_pos (by omega), if_pos (by omega), if_pos (by omega), bt_drop hd]
    by_cases c34 : c = 34
    · rw [if_pos (by rw [e34]; exact c34), esc (.inl c34)]
    · rw [if_neg (by rw [e34]; exact c34)]
      by_cases c92 : c = 92
      · rw [show ((c.toNat : Int) == 92) = true by rw [beq_iff_eq, e92]; exact c92, esc (.inr c92)]
      · rw [show ((c.toNat : Int) == 92) = false by rw [beq_eq_false_iff_ne, ne_eq, e92]; exact c92, lex_Quote.j1, if_neg (by decide), text_is]
        simp only [Option.bind_some]
        have hn : ¬ (c = 34 ∨ c = 92) := fun h => h.elim c34 c92
        cases ht : text c with
        | true =>
          rw [if_pos rfl, if_pos hl1, show numsOf acc ++ [(c.toNat : Int)] = numsOf (acc ++ [c]) by simp [numsOf], goon _ (by simp)]
          simp [qB, hn, ht]
        | false =>
          rw [if_neg (by decide), if_pos hl1, show numsOf acc ++ [32] = numsOf (acc ++ [32]) by simp [numsOf], goon _ (by simp)]
          simp [qB, hn, ht]
theorem lexQuote_is (s : ByteArray) (hs : s.size ≤ 1000000000) (k : Nat) (hk : 2 * s.size + 1 ≤ k) : lex_Quote.f k s = some (str (quote (bs s))) := by
  have := lexQuote_l0 s hs (bs s) 0 k [34] (by simp) (by omega) (by rw [bs_length]; omega) (by simp)
  unfold lex_Quote.f quote
  exact this
theorem quote_length (l : Bytes) : (quote l).length ≤ 2 * l.length + 2 := by
  have h : (l.flatMap qB).length ≤ 2 * l.length := by
    induction l with
    | nil => simp
    | cons c l ih =>
      have : (qB c).length ≤ 2 := by unfold qB; repeat' split
                                     all_goals simp
      simp only [List.flatMap_cons, List.length_append, List.length_cons]
      omega
  unfold quote
  simp only [List.length_cons, List.length_append, List.length_nil]
  omega
/-! Text, Key, why, Right -/
def localL (a : Bytes) : Bytes := if dottedL a = true then a else quote a
def textL (a b : Bytes) : Bytes := localL a ++ 64 :: b
theorem localL_length (a : Bytes) : (localL a).length ≤ 2 * a.length + 2 := by
  unfold localL
  have := quote_length a
  split <;> omega
theorem addrText_is (a b : ByteArray) (ha : a.size ≤ 1000000) (hb : b.size ≤ 1000000) (k : Nat) (hk : 2 * a.size + 1 ≤ k) : addr_Addr_Text.f k a b = some (str (textL (bs a) (bs b))) := by
  unfold addr_Addr_Text.f addr_Dotted.f textL localL
  rw [if_pos (by omega)]
  simp only [Option.bind_some]
  rw [dotted_L]
  cases hd : dottedL (bs a) with
  | true =>
    rw [if_pos rfl, if_pos (by omega), if_pos (by simp only [ByteArray.size_append]; have : (⟨#[64]⟩ : ByteArray).size = 1 := rfl; omega), if_pos rfl]
    congr 1
    apply bs_inj
    rw [bs_app, bs_app, bs_str]
    simp [bs]
  | false =>
    have hq := quote_length (bs a)
    rw [bs_length] at hq
    rw [if_neg (by decide), lexQuote_is a (by omega) k hk]
    simp only [Option.bind_some]
    rw [if_pos (by rw [str_size]; omega), if_pos (by simp only [ByteArray.size_append, str_size]; have : (⟨#[64]⟩ : ByteArray).size = 1 := rfl; omega), if_neg (by decide)]
    congr 1
    apply bs_inj
    rw [bs_app, bs_app, bs_str, bs_str]
    simp [bs]
theorem textL_length (a b : Bytes) : (textL a b).length ≤ 2 * a.length + 3 + b.length := by
  unfold textL
  have := localL_length a
  simp
  omega
def why (a b : ByteArray) : Int :=
  if domain b = 130 ∨ bs a = [] ∨ plain a = false then 130
  else if domain b ≠ 0 ∨ 64 < a.size ∨ 254 < (textL (bs a) (bs b)).length then 2 else 0
theorem addrWhy_is (a b : ByteArray) (ha : a.size ≤ 1000000) (hb : b.size ≤ 1000000) (k : Nat) (hk : 2 * a.size + 1 + 1 ≤ k) : addr_why.f k a b = some (why a b) := by
  unfold addr_why.f addr_domain.f why
  rw [if_pos (by omega)]
  simp only [Option.bind_some]
  obtain ⟨k, rfl⟩ : ∃ j, k = j + 1 := ⟨k - 1, by omega⟩
  have yes : addr_why.j0 (k + 1) (domain b) true a b = some 130 := by rw [addr_why.j0, if_pos rfl]
  by_cases h1 : domain b = 130
  · rw [if_pos h1, if_pos (.inl h1), yes]
  · rw [if_neg h1]
    by_cases h2 : bs a = []
    · rw [if_pos (by rw [toList_bs]; exact h2), if_pos (.inr (.inl h2)), yes]
    · rw [if_neg (by rw [toList_bs]; exact h2)]
      unfold glyph_Plain.f
      rw [if_pos (by omega)]
      simp only [Option.bind_some]
      cases hp : plain a with
      | false => rw [if_pos (.inr (.inr rfl)), show (!false) = true from rfl, yes]
      | true =>
        rw [if_neg (by simp [h1, h2]), show (!true) = false from rfl, addr_why.j0, if_neg (by decide)]
        by_cases h3 : domain b = 0
        · rw [if_pos h3]
          by_cases h4 : (a.size : Int) > 64
          · rw [if_pos h4, if_pos (.inr (.inl (by omega)))]
          · rw [if_neg h4, addrText_is a b ha hb k (by omega)]
            simp only [Option.bind_some]
            rw [str_size]
            by_cases h5 : ((textL (bs a) (bs b)).length : Int) > 254
            · rw [if_pos h5, if_pos (.inr (.inr (by omega)))]
            · rw [if_neg h5, if_neg (by rintro (h | h | h); exact h h3; omega; omega)]
        · rw [if_neg h3, if_pos (.inl h3)]
def right (a b : ByteArray) : Bool := decide (why a b = 0) && (bs b == fold (bs b))
/-! Capital letters, dots, quotes and the sign @. -/
theorem forall_byte {p : UInt8 → Prop} [DecidablePred p] (h : ∀ i : Fin 256, p (UInt8.ofNat i.val)) (c : UInt8) : p c := by
 have := h ⟨c.toNat, c.toNat_lt⟩
 simpa using this
set_option maxRecDepth 100000 in
theorem foldB_idem (c : UInt8) : foldB (foldB c) = foldB c := forall_byte (p := fun c => foldB (foldB c) = foldB c) (by decide +kernel) c
theorem fold_idem (l : Bytes) : fold (fold l) = fold l := by
 unfold fold
 rw [List.map_map]
 apply List.map_congr_left
 intro c _
 exact foldB_idem c
theorem glyphFold_is (s : ByteArray) (h : s.size ≤ 1000000000) : glyph_Fold.f s = some (str (fold (bs s))) := by
 unfold glyph_Fold.f
 rw [if_pos (by omega)]
 rfl
/-! plain: of all bytes -/
theorem addrKey_is (a b : ByteArray) (ha : a.size ≤ 1000000) (hb : b.size ≤ 1000000) (k : Nat) (hk : 2 * a.size + 1 ≤ k) : addr_Addr_Key.f k a b = some (str (fold (textL (bs a) (bs b)))) := by
 unfold addr_Addr_Key.f
 rw [addrText_is a b ha hb k hk]
 have := textL_length (bs a) (bs b)
 rw [bs_length, bs_length] at this
 simp only [Option.bind_some]
 unfold glyph_Fold.f
 rw [if_pos (by rw [str_size]; omega)]
 simp only [Option.bind_some]
 rw [show (str (textL (bs a) (bs b))).data.toList = textL (bs a) (bs b) from str_data _]
/-! Layer 13, the document's, over lists of bytes: it answers as the program does. -/
/-! IsAtom -/
/-! Quote -/
theorem text_34 : text 34 = true := by decide +kernel
/-! Layer 12: tokens, by one machine over lists of bytes; the document's Scan is this machine. -/
inductive Sc where
 | out
 | atom (w : Bytes)
 | quot (w : Bytes) (b : Bool)
 | comm (d : Nat) (b : Bool)
abbrev Tok := Int × Bytes
def whiteB (c : UInt8) : Bool := c == 32 || c == 9
def foldAt : Bytes → Bool
 | a :: b :: c :: _ => a == 13 && b == 10 && whiteB c
 | _ => false
def signB (c : UInt8) : Bool := (⟨#[60, 62, 58, 59, 64, 44, 46]⟩ : ByteArray).data.toList.contains c
def stepOut (acc : List Tok) (c : UInt8) (l : Bytes) : (List Tok × Sc × Bytes) ⊕ Int :=
 if foldAt (c :: l) = true then .inl (acc, .out, l.tail)
 else if atomic c = true then .inl (acc, .atom [c], l)
 else if c = 34 then .inl (acc, .quot [] false, l)
 else if c = 40 then .inl (acc, .comm 1 false, l)
 else if signB c = true then .inl (acc ++ [(3, [c])], .out, l)
 else if whiteB c = true then .inl (acc, .out, l)
 else .inr 3
def commAfter (acc : List Tok) (d : Nat) (l : Bytes) : (List Tok × Sc × Bytes) ⊕ Int :=
 if 16 < d then .inr 1 else if d = 0 then .inl (acc, .out, l) else .inl (acc, .comm d false, l)
def step (acc : List Tok) (st : Sc) (c : UInt8) (l : Bytes) : (List Tok × Sc × Bytes) ⊕ Int :=
 match st with
 | .out => stepOut acc c l
 | .atom w => if atomic c = true then .inl (acc, .atom (w ++ [c]), l) else stepOut (acc ++ [(1, w)]) c l
 | .quot w true => if text c = true then .inl (acc, .quot (w ++ [c]) false, l) else .inr 3
 | .comm d true => if text c = true then .inl (acc, .comm d false, l) else .inr 3
 | .quot w false =>
  if foldAt (c :: l) = true then .inl (acc, .quot w false, l.tail)
  else if c = 92 then .inl (acc, .quot w true, l)
  else if text c = true then (if c = 34 then .inl (acc ++ [(2, w)], .out, l) else .inl (acc, .quot (w ++ [c]) false, l))
  else .inr 3
 | .comm d false =>
  if foldAt (c :: l) = true then .inl (acc, .comm d false, l.tail)
  else if c = 92 then .inl (acc, .comm d true, l)
  else if text c = true then commAfter acc (if c = 40 then d + 1 else if c = 41 then d - 1 else d) l
  else .inr 3
def endOf (acc : List Tok) : Sc → List Tok × Int
 | .out => (acc, 0)
 | .atom w => (acc ++ [(1, w)], 0)
 | _ => ([], 9)
def scan : Nat → List Tok → Sc → Bytes → List Tok × Int
 | _, acc, st, [] => endOf acc st
 | 0, _, _, _ :: _ => ([], 7)
 | k + 1, acc, st, c :: l => match step acc st c l with
  | .inl (acc', st', l') => scan k acc' st' l'
  | .inr e => ([], e)
theorem stepOut_le {acc : List Tok} {c : UInt8} {l : Bytes} {a : List Tok} {s : Sc} {r : Bytes} (h : stepOut acc c l = .inl (a, s, r)) : r.length ≤ l.length := by
 unfold stepOut at h
 repeat' split at h
 all_goals (first | (cases h; done) | (simp only [Sum.inl.injEq, Prod.mk.injEq] at h; obtain ⟨_, _, rfl⟩ := h; simp))
theorem step_le {acc : List Tok} {st : Sc} {c : UInt8} {l : Bytes} {a : List Tok} {s : Sc} {r : Bytes} (h : step acc st c l = .inl (a, s, r)) : r.length ≤ l.length := by
 unfold step commAfter at h
 repeat' split at h
 all_goals (first | exact stepOut_le h | (cases h; done) | (simp only [Sum.inl.injEq, Prod.mk.injEq] at h; obtain ⟨_, _, rfl⟩ := h; simp))
theorem scan_more : ∀ (k : Nat) (acc : List Tok) (st : Sc) (l : Bytes), l.length ≤ k → scan k acc st l = scan (k + 1) acc st l
 | k, acc, st, [], _ => by cases k <;> rfl
 | 0, acc, st, c :: l, h => by simp at h
 | k + 1, acc, st, c :: l, h => by
  rw [scan, scan]
  cases hs : step acc st c l with
  | inr e => rfl
  | inl x =>
   obtain ⟨a, s, r⟩ := x
   have := step_le hs
   simp only [List.length_cons] at h
   exact scan_more k a s r (by omega)
def scanL (acc : List Tok) (st : Sc) (l : Bytes) : List Tok × Int := scan l.length acc st l
theorem scan_enough (k : Nat) (acc : List Tok) (st : Sc) (l : Bytes) (h : l.length ≤ k) : scan k acc st l = scanL acc st l := by
 unfold scanL
 obtain ⟨d, rfl⟩ : ∃ d, k = l.length + d := ⟨k - l.length, by omega⟩
 clear h
 induction d with
 | zero => rfl
 | succ d ih => rw [← Nat.add_assoc, ← scan_more _ _ _ _ (by omega)]; exact ih
theorem scanL_cons (acc : List Tok) (st : Sc) (c : UInt8) (l : Bytes) : scanL acc st (c :: l) = match step acc st c l with
  | .inl (acc', st', l') => scanL acc' st' l'
  | .inr e => ([], e) := by
 rw [scanL, List.length_cons, scan]
 cases hs : step acc st c l with
 | inr e => rfl
 | inl x =>
  obtain ⟨a, s, r⟩ := x
  exact scan_enough _ _ _ _ (step_le hs)
/-! The document's Scan -/
def wOf : Sc → Bytes
 | .atom w => w
 | .quot w _ => w
 | _ => []
theorem byte_ofNat (c : UInt8) (n : Nat) (h : n < 256) : ((c.toNat : Int) = ((n : Nat) : Int)) ↔ c = UInt8.ofNat n := by rw [byte_eq c n h]
theorem tail_drop {s : ByteArray} {i : Nat} {c : UInt8} {l : Bytes} (hd : (bs s).drop i = c :: l) (hf : foldAt (c :: l) = true) : (bs s).drop (i + 2) = l.tail ∧ i + 2 ≤ (bs s).length ∧ l.tail.length ≤ l.length := by
 obtain ⟨h1, h2, h3, h4⟩ := drop_cons hd
 cases l with
 | nil => cases hf
 | cons b l =>
  obtain ⟨g1, g2, g3, g4⟩ := drop_cons h3
  exact ⟨g3, by omega, by simp⟩
end Go.Proofs.YtcndmhpeolbepaaGreatDoor.Pl
