/- A part of the proof of this sentence: MbxReads (14.6): the boxes of any bytes, and the one box, or why there are none, are as the document has them; of at most 2000 bytes. -/
import Derived.Test.YtihabmcaplnbcaaDoorCMbxReads1
import Derived.Test.YtihabmcaplnbcaaDoorRows
import Derived.HandedShaped
import Derived.LaidLaws
import Derived.LaidHandle
import Derived.Deep.DeepLaidRun
import Derived.Stop.Joined
import Derived.PinnedBridge
import Derived.Lib.LaidU8
import Derived.ProofKit
import Derived.RangeFuncSeq
namespace Go.Proofs.YtihabmcaplnbcaaDoor.Fn
open Go.RowKit Go.Proofs.YtihabmcaplnbcaaDoorW.PrintWords Go.Proofs.YtihabmcaplnbcaaDoorW.PrintLast Go.Proofs.YtihabmcaplnbcaaDoorW.PrintMore
attribute [local go_sem] max2_int min2_int max_two min_two max_three min_three max_four min_four
set_option linter.unusedVariables false
set_option linter.unusedSimpArgs false

mutual
def addr_Of.j0 : Nat → List (S107) → ByteArray → Bool → Option (ByteArray × ByteArray × Int)
 | 0, _, _, _ => none
 | k + 1, x0, x4, x21 => if x21 = true then (some ((⟨#[]⟩ : ByteArray), (⟨#[]⟩ : ByteArray), 130)) else (if 1 ≤ (x0.length : Int) then ((addr_joined.f k (x0.drop 1) true).bind fun bt213 => (if bt213.2.2 = true then (addr_Of.j1 k x4 bt213.1 (decide ((bt213.2.1.length : Int) > 0))) else (addr_Of.j1 k x4 bt213.1 true))) else (none))
def addr_Of.j1 : Nat → ByteArray → ByteArray → Bool → Option (ByteArray × ByteArray × Int)
 | 0, _, _, _ => none
 | k + 1, x4, x6, x36 => if x36 = true then (some ((⟨#[]⟩ : ByteArray), (⟨#[]⟩ : ByteArray), 130)) else ((glyph_Fold.f x6).bind fun t218 => ((addr_why.f k x4 t218).bind fun t220 => (if t220 = 0 then (some (x4, t218, 0)) else (some ((⟨#[]⟩ : ByteArray), (⟨#[]⟩ : ByteArray), t220)))))
end
def addr_Of.f (k : Nat) (l0 : List (S107)) : Option (ByteArray × ByteArray × Int) := (addr_joined.f k l0 false).bind fun bt202 => (if bt202.2.2 = true then ((addr_is.f bt202.2.1 (⟨#[64]⟩ : ByteArray)).bind fun t207 => (addr_Of.j0 k bt202.2.1 bt202.1 (!t207))) else (addr_Of.j0 k bt202.2.1 bt202.1 true))
set_option maxHeartbeats 8000000 in
set_option maxRecDepth 100000 in
theorem addr_Of.calls (k : Nat) (A0 : Option Addr) (c0 : Nat) (l0 : List (S107)) (r1 : ByteArray) (r2 : ByteArray) (r3 : Int) (w : World) (hr0 : Kd.C k107 w A0 l0.length l0) (hc0 : l0.length ≤ c0) (h : addr_Of.f k l0 = some (r1, r2, r3)) :
  Calls Tryd.prog 144 #[.slice A0 l0.length c0] w fun e w' => e = .returned (.tuple #[.agg #[.string r1, .string r2], .int .i64 r3]) ∧ Below w.heap.size w w' := by
 have hu31 := Tryd.underlying31; have HR0 := Aside0.mk hr0; have HC0 := Aside0.mk hc0; clear hr0 hc0; have HB := Aside0.mk (Below.refl w.heap.size w); have H : ((addr_joined.f k l0 false).bind fun bt202 => (if bt202.2.2 = true then ((addr_is.f bt202.2.1 (⟨#[64]⟩ : ByteArray)).bind fun t207 => (addr_Of.j0 k bt202.2.1 bt202.1 (!t207))) else (addr_Of.j0 k bt202.2.1 bt202.1 true))) = some (r1, r2, r3) := h; clear h; replace H := Option.bind_eq_some_iff.mp H; obtain ⟨⟨t202, t203, t206⟩, A20, H⟩ := H; replace H : (if t206 = true then ((addr_is.f t203 (⟨#[64]⟩ : ByteArray)).bind fun t207 => (addr_Of.j0 k t203 t202 (!t207))) else (addr_Of.j0 k t203 t202 true)) = some (r1, r2, r3) := H; have A2 := Aside0.mk A20; clear A20; have HC3 := Aside0.mk H; clear H
 go_enter Tryd.func144, Tryd.ntmps144
 go_upto_region 2 with (first | ((with_reducible refine gate_dst (N := 2) rfl ?_); (try (refine gate_guard (by rfl) ?_; dsimp only)); refine box_event ?hg (N := 2) ?hd (cs := #[.string (⟨#[]⟩ : ByteArray), .string (⟨#[]⟩ : ByteArray)]) (t := 31) ?hr ?_; (case hd => rfl); (case hg => rfl); (case hr => first | (go_simp; done) | (go_simp; rfl)); intro gb201 hg w4 hbox hb; have n0_ := Aside0.mk (below_step bw hb); have n1_ := Aside0.mk (hbox); have n2_ := Aside0.mk ((by rw [hg]; exact (below_size bw) : w.heap.size ≤ gb201)); have n3_ := Aside0.mk ((by rw [hg]; exact (below_size bw) : w.heap.size ≤ gb201)); clear HB; have HB := n0_; have BK201 := n1_; have GW201 := n2_; have GE201 := n3_; clear n0_ n1_ n2_ n3_; clear hb hbox hg) | ((with_reducible refine gate_callee (f := 163) rfl ?_); refine goesL_ (some 11) rfl rfl Tryd.func163 (by kernel_rfl) rfl #[.slice A0 l0.length c0, .bool false] rfl am ?_; (with_reducible refine (addr_joined.calls k (fun k_ => k_ < w.heap.size) _ _ l0 false t202 t203 t206 _ ?side1 A2.out).mono ?_); (case side1 => exact Kd.V_mk HC0.out (Kd.F_below (Kd.C_F k107_heap HR0.out) bwS)); rintro e w5 ⟨v204, rfl, ho0, hb⟩; refine ⟨_, rfl, ?_⟩; have n0_ := Aside0.mk (Kd.V_lower (Kd.V_mono (ok' := fun k_ => k_ ≠ gb201) ho0 (fun k_ hk_ => Or.elim hk_ (fun hs_ => fun e_ => Nat.not_le.2 hs_ (by rw [e_]; exact GW201.out)) (fun hn_ => (Kd.freshB (g := gb201) (o := .cells #[.string (⟨#[]⟩ : ByteArray), .string (⟨#[]⟩ : ByteArray)] 31 (0, 0)) bk k_ hn_)))) (below_size bwS)); have n1_ := Aside0.mk (blk_below (g := gb201) (o := .cells #[.string (⟨#[]⟩ : ByteArray), .string (⟨#[]⟩ : ByteArray)] 31 (0, 0)) bk hb); have n2_ := Aside0.mk (below_step bwS hb); clear BK201; clear HB; have HO205 := n0_; have BK201 := n1_; have HB := n2_; clear n0_ n1_ n2_; (try clear hb); (try clear hb2); (try clear hk); (try clear hi); (try clear ho0)))
 (try simp only [Act.put, List.setIfInBounds_toArray, List.set_cons_zero, List.set_cons_succ])
 go_cut [21] (fun v21 wc => ∃ (kq : Nat) (x21_2 : Bool), v21 = .bool x21_2 ∧ Aside0 (addr_Of.j0 kq t203 t202 x21_2 = some (r1, r2, r3)) ∧ Aside0 (kq ≤ k) ∧ Aside0 (Kd.V k107 107 wc w.heap.size (fun k_ => k_ ≠ gb201) v204 t203) ∧ Aside0 (wc.heap[gb201]? = some (.cells #[.string (⟨#[]⟩ : ByteArray), .string (⟨#[]⟩ : ByteArray)] 31 (0, 0))) ∧ Aside0 (Below w.heap.size w wc))
 case first =>
  have H := HC3.out; clear HC3
  by_cases c6 : t206 = true
  ·subst c6; rw [if_pos rfl] at H; replace H := Option.bind_eq_some_iff.mp H; obtain ⟨t207, A70, H⟩ := H; have A7 := Aside0.mk A70; clear A70; have H' := Aside0.mk H; clear H; obtain ⟨Ao8, co8, eo8⟩ := Kd.V_slice HO205.out; subst eo8
   go_wp2_with (first | (go_at_call 164; (with_reducible refine (addr_is.calls _ _ t203 (⟨#[64]⟩ : ByteArray) t207 _ ?side1 ?side2 A7.out).mono ?_); (case side1 => repeat (first | exact (Kd.V_reads' HO205.out).2.2 | (with_reducible refine Kd.C_alloc ?_ _) | (with_reducible refine Kd.C_drewN ?_ _) | (with_reducible refine Kd.C_drew ?_))); (case side2 => exact (Kd.V_reads' HO205.out).2.1); rintro e w' ⟨rfl, ⟨nd, rfl⟩⟩))
   go_meet
   case rel => exact ⟨_, (!t207), cl, H', ⟨by first | omega | exact Nat.le_refl _⟩, ⟨by (with_reducible repeat (first | apply Kd.V_alloc | apply Kd.V_drewN | apply Kd.V_drew)); exact HO205.out⟩, ⟨bk⟩, ⟨bwS⟩⟩
  replace c6 := Bool.eq_false_iff.mpr c6; subst c6; rw [if_neg nft] at H; have H' := Aside0.mk H; clear H
  go_wp2
  go_meet
  case rel => exact ⟨_, (true), cl, H', ⟨by first | omega | exact Nat.le_refl _⟩, ⟨by (with_reducible repeat (first | apply Kd.V_alloc | apply Kd.V_drewN | apply Kd.V_drew)); exact HO205.out⟩, ⟨bk⟩, ⟨bwS⟩⟩
 case rest =>
  clear HC3
  try clear c1
  try clear p2
  try clear c6
  obtain ⟨kq, x21_2, rfl, HA, HJ2, HO_0, BK201, HB⟩ := hcut; cases kq with
  | zero => exact absurd HA.out (by simp [addr_Of.j0])
  | succ kj2 =>
   have H := HA.out; clear HA; simp only [addr_Of.j0] at H
   by_cases c9 : x21_2 = true
   ·subst c9; rw [if_pos rfl] at H; simp only [Option.some.injEq, Prod.mk.injEq] at H; obtain ⟨rfl, rfl, rfl⟩ := H; obtain ⟨hcz10_0, hcz10_1, hfz10_0, hfz10_1⟩ := bk2 BK201.out
    go_wp2
    refine bodyPost_ret (results_ct rfl _ _ gb201 31 #[.string (⟨#[]⟩ : ByteArray), .string (⟨#[]⟩ : ByteArray)] (0, 0) _ rfl (by (with_reducible repeat (first | refine blk_drewN ?_ _ | refine blk_drew ?_ | refine blk_alloc ?_ _)); refine blk_put (cs := #[.string (⟨#[]⟩ : ByteArray), .string (⟨#[]⟩ : ByteArray)]) ?_ 1 _ rfl; (with_reducible repeat (first | refine blk_drewN ?_ _ | refine blk_drew ?_ | refine blk_alloc ?_ _)); exact blk_put (cs := #[.string (⟨#[]⟩ : ByteArray), .string (⟨#[]⟩ : ByteArray)]) bk 0 _ rfl) Tryd.underlying31 rfl (by kernel_rfl)) rfl ?_; exact ⟨ew, bwS⟩
   replace c9 := Bool.eq_false_iff.mpr c9; subst c9; rw [if_neg nft] at H
   by_cases c11 : 1 ≤ (t203.length : Int)
   ·rw [if_pos c11] at H; have c11b0 := eq_true c11; have c11b1 := decide_eq_true c11; clear c11; obtain ⟨y208, hy208⟩ : ∃ y_ : List (S107), y_ = (t203.drop 1) := ⟨_, rfl⟩
    replace H : ((addr_joined.f kj2 y208 true).bind fun bt213 => (if bt213.2.2 = true then (addr_Of.j1 kj2 t202 bt213.1 (decide ((bt213.2.1.length : Int) > 0))) else (addr_Of.j1 kj2 t202 bt213.1 true))) = some (r1, r2, r3) := by first | (rw [hy208]; with_reducible exact H) | (have H2_ := (Option.bind_some _ _).symm.trans H; rw [hy208]; with_reducible exact H2_) | (have H2_ := (Option.bind_some _ _).symm.trans H; with_reducible exact H2_) | with_reducible exact H | (rw [hy208]; exact H) | exact H
    have Ny208 := Aside0.mk hy208; clear hy208; replace H := Option.bind_eq_some_iff.mp H; obtain ⟨⟨t213, t214, t217⟩, A120, H⟩ := H; replace H : (if t217 = true then (addr_Of.j1 kj2 t202 t213 (decide ((t214.length : Int) > 0))) else (addr_Of.j1 kj2 t202 t213 true)) = some (r1, r2, r3) := H; have A12 := Aside0.mk A120; clear A120; have HC13 := Aside0.mk H; clear H; obtain ⟨Ao15, co15, eo15⟩ := Kd.V_slice HO_0.out; subst eo15; have q14 : (1 : Int) ≤ ((t203.length : Int) : Int) := od; obtain ⟨i014, hi014, _, hsz14, _⟩ := info_parts info107; have hroom14 : t203.length ≤ co15 := (Kd.V_reads' HO_0.out).2.1; have hC14 : Kd.F k107 _ _ Ao15 t203.length t203 := (Kd.V_at (base := w.heap.size) HO_0.out).2.2; have hcut14 := cut_from (P := Tryd.prog) 60 107 .i64 Tryd.underlying60 hi014 2 hsz14 Ao15 t203.length co15 1 (by omega) q14; have hr14 := Kd.F_cut (m := (1 : Int).toNat) (c := co15) hC14 (by omega) hroom14; obtain ⟨A14, hA14⟩ : ∃ A1, A1 = (if co15 = (1 : Int).toNat then Ao15 else (Ao15 : Option Addr).map (·.add ((1 : Int).toNat * 2))) := ⟨_, rfl⟩
    obtain ⟨c14, hc14⟩ : ∃ c1, c1 = co15 - (1 : Int).toNat := ⟨_, rfl⟩
    have hy14 : y208.length = t203.length - (1 : Int).toNat := (by rw [Ny208.out, List.length_drop] <;> omega)
    rw [show (t203).drop (1 : Int).toNat = y208 from Ny208.out.symm] at hr14; replace hr14 : Kd.F k107 _ _ A14 y208.length y208 := (by rw [hA14]; exact hr14)
    rw [← hy14, ← hA14, ← hc14] at hcut14; have HO212 := Aside0.mk (show Kd.V k107 107 _ w.heap.size _ (.slice A14 y208.length c14) y208 from Kd.V_mk (by rw [hy14, hc14]; exact Nat.sub_le_sub_right hroom14 _) hr14); have HC212 := Aside0.mk (show y208.length ≤ c14 from by rw [hy14, hc14]; exact Nat.sub_le_sub_right hroom14 _); clear hr14 hC14 hroom14 hi014 hsz14 hc14; have KY14 := Aside0.mk hy14; have KA14 := Aside0.mk hA14; clear hy14 hA14; replace q14 := eq_true q14
    go_upto_region 5 with (first | ((with_reducible refine gate_callee (f := 163) rfl ?_); refine goesL_ (some 26) rfl rfl Tryd.func163 (by kernel_rfl) rfl #[.slice A14 y208.length c14, .bool true] rfl am ?_; (with_reducible refine (addr_joined.calls kj2 (fun k_ => k_ ≠ gb201) _ _ y208 true t213 t214 t217 _ ?side1 A12.out).mono ?_); (case side1 => exact HO212.out); rintro e w16 ⟨v215, rfl, ho0, hb⟩; refine ⟨_, rfl, ?_⟩; have n0_ := Aside0.mk (Kd.V_below (by (with_reducible repeat (first | apply Kd.V_alloc | apply Kd.V_drewN | apply Kd.V_drew)); exact HO_0.out) hb); have n1_ := Aside0.mk (Kd.V_below (by (with_reducible repeat (first | apply Kd.V_alloc | apply Kd.V_drewN | apply Kd.V_drew)); exact HO212.out) hb); have n2_ := Aside0.mk (Kd.V_lower (Kd.V_mono (ok' := fun k_ => k_ ≠ gb201) ho0 (fun k_ hk_ => Or.elim hk_ (fun hs_ => hs_) (fun hn_ => (Kd.freshB (g := gb201) (o := .cells #[.string (⟨#[]⟩ : ByteArray), .string (⟨#[]⟩ : ByteArray)] 31 (0, 0)) bk k_ hn_)))) (below_size bwS)); have n3_ := Aside0.mk (blk_below (g := gb201) (o := .cells #[.string (⟨#[]⟩ : ByteArray), .string (⟨#[]⟩ : ByteArray)] 31 (0, 0)) bk hb); have n4_ := Aside0.mk (below_step bwS hb); clear HO_0; clear HO212; clear BK201; clear HB; have HO_0 := n0_; have HO212 := n1_; have HO216 := n2_; have BK201 := n3_; have HB := n4_; clear n0_ n1_ n2_ n3_ n4_; (try clear hb); (try clear hb2); (try clear hk); (try clear hi); (try clear ho0)))
    (try simp only [Act.put, List.setIfInBounds_toArray, List.set_cons_zero, List.set_cons_succ])
    go_cut [36] (fun v36 wc => ∃ (kq : Nat) (x36_12 : Bool), v36 = .bool x36_12 ∧ Aside0 (addr_Of.j1 kq t202 t213 x36_12 = some (r1, r2, r3)) ∧ Aside0 (kq ≤ kj2) ∧ Aside0 (wc.heap[gb201]? = some (.cells #[.string (⟨#[]⟩ : ByteArray), .string (⟨#[]⟩ : ByteArray)] 31 (0, 0))) ∧ Aside0 (Below w.heap.size w wc))
    case first =>
     have H := HC13.out; clear HC13
     by_cases c17 : t217 = true
     ·subst c17; rw [if_pos rfl] at H; have H' := Aside0.mk H; clear H; obtain ⟨Ao18, co18, eo18⟩ := Kd.V_slice HO216.out; subst eo18
      go_wp2
      go_meet
      case rel => exact ⟨_, (decide ((t214.length : Int) > 0)), cl, H', ⟨by have := HJ2.out; first | omega | exact Nat.le_refl _⟩, ⟨bk⟩, ⟨bwS⟩⟩
     replace c17 := Bool.eq_false_iff.mpr c17; subst c17; rw [if_neg nft] at H; have H' := Aside0.mk H; clear H
     go_wp2
     go_meet
     case rel => exact ⟨_, (true), cl, H', ⟨by have := HJ2.out; first | omega | exact Nat.le_refl _⟩, ⟨bk⟩, ⟨bwS⟩⟩
    case rest =>
     clear HC13
     try clear c1
     try clear q1
     try clear p2
     try clear c6
     try clear c9
     try clear c11
     try clear c11b0
     try clear c11b1
     try clear c14
     try clear q14
     try clear c16
     try clear c17
     try clear hcz10_0
     try clear hcz10_1
     try clear hfz10_0
     try clear hfz10_1
     try clear p2
     try clear q14
     obtain ⟨kq, x36_12, rfl, HA, HJ12, BK201, HB⟩ := hcut; cases kq with
     | zero => exact absurd HA.out (by simp [addr_Of.j1])
     | succ kj12 =>
      have H := HA.out; clear HA; simp only [addr_Of.j1] at H
      by_cases c19 : x36_12 = true
      ·subst c19; rw [if_pos rfl] at H; simp only [Option.some.injEq, Prod.mk.injEq] at H; obtain ⟨rfl, rfl, rfl⟩ := H; obtain ⟨hcz20_0, hcz20_1, hfz20_0, hfz20_1⟩ := bk2 BK201.out
       go_wp2
       refine bodyPost_ret (results_ct rfl _ _ gb201 31 #[.string (⟨#[]⟩ : ByteArray), .string (⟨#[]⟩ : ByteArray)] (0, 0) _ rfl (by (with_reducible repeat (first | refine blk_drewN ?_ _ | refine blk_drew ?_ | refine blk_alloc ?_ _)); refine blk_put (cs := #[.string (⟨#[]⟩ : ByteArray), .string (⟨#[]⟩ : ByteArray)]) ?_ 1 _ rfl; (with_reducible repeat (first | refine blk_drewN ?_ _ | refine blk_drew ?_ | refine blk_alloc ?_ _)); exact blk_put (cs := #[.string (⟨#[]⟩ : ByteArray), .string (⟨#[]⟩ : ByteArray)]) bk 0 _ rfl) Tryd.underlying31 rfl (by kernel_rfl)) rfl ?_; exact ⟨ew, bwS⟩
      replace c19 := Bool.eq_false_iff.mpr c19; subst c19; rw [if_neg nft] at H; replace H := Option.bind_eq_some_iff.mp H; obtain ⟨t218, A210, H⟩ := H; have A21 := Aside0.mk A210; clear A210; replace H := Option.bind_eq_some_iff.mp H; obtain ⟨t220, A220, H⟩ := H; have A22 := Aside0.mk A220; clear A220
      by_cases c23 : t220 = 0
      ·rw [if_pos c23] at H; have c23b0 := beq_iff_eq.mpr c23; have c23b1 := bne_eq_false_iff_eq.mpr c23; clear c23; simp only [Option.some.injEq, Prod.mk.injEq] at H; obtain ⟨rfl, rfl, rfl⟩ := H
       go_wp2_with (first | ((with_reducible refine gate_callee (f := 26) rfl ?_); refine goesL_ (some 40) rfl rfl Tryd.func26 (by kernel_rfl) rfl #[.string t213] rfl am ?_; (with_reducible refine (glyph_Fold.calls t213 t218 _ A21.out).mono ?_); rintro e w24 ⟨rfl, hb⟩; refine ⟨_, rfl, ?_⟩; have n0_ := Aside0.mk (blk_below (g := gb201) (o := .cells #[.string (⟨#[]⟩ : ByteArray), .string (⟨#[]⟩ : ByteArray)] 31 (0, 0)) bk hb); have n1_ := Aside0.mk (below_step bwS hb); clear BK201; clear HB; have BK201 := n0_; have HB := n1_; clear n0_ n1_; (try clear hb); (try clear hb2); (try clear hk); (try clear hi)) | ((with_reducible refine gate_dst (N := 7) rfl ?_); (try (refine gate_guard (by rfl) ?_; dsimp only)); refine box_event ?hg (N := 7) ?hd (cs := #[.string (⟨#[]⟩ : ByteArray), .string (⟨#[]⟩ : ByteArray)]) (t := 31) ?hr ?_; (case hd => rfl); (case hg => rfl); (case hr => first | (go_simp; done) | (go_simp; rfl)); intro gb219 hg w25 hbox hb; have n0_ := Aside0.mk (blk_below (g := gb201) (o := .cells #[.string (⟨#[]⟩ : ByteArray), .string (⟨#[]⟩ : ByteArray)] 31 (0, 0)) bk hb); have n1_ := Aside0.mk (below_step bwS hb); have n2_ := Aside0.mk (hbox); have n3_ := Aside0.mk ((by rw [hg]; exact (below_size bwS) : w.heap.size ≤ gb219)); have n4_ := Aside0.mk ((by rw [hg]; exact (below_size bwS) : w.heap.size ≤ gb219)); have n5_ := Aside0.mk ((by rw [hg]; exact Nat.ne_of_lt (blk_lt (g := gb201) (o := .cells #[.string (⟨#[]⟩ : ByteArray), .string (⟨#[]⟩ : ByteArray)] 31 (0, 0)) bk) : gb201 ≠ gb219)); have n6_ := Aside0.mk ((by rw [hg]; exact Nat.ne_of_gt (blk_lt (g := gb201) (o := .cells #[.string (⟨#[]⟩ : ByteArray), .string (⟨#[]⟩ : ByteArray)] 31 (0, 0)) bk) : gb219 ≠ gb201)); clear BK201; clear HB; have BK201 := n0_; have HB := n1_; have BK219 := n2_; have GW219 := n3_; have GE219 := n4_; have NB201_219 := n5_; have NB219_201 := n6_; clear n0_ n1_ n2_ n3_ n4_ n5_ n6_; clear hb hbox hg; have hnb26 := NB219_201.out; have hnc26 := NB201_219.out; have hcz27_0 : w25.cell? ⟨gb219, 0, none⟩ = some (.string (⟨#[]⟩ : ByteArray)) := (blk_cell BK219.out 0).trans rfl; have hcz27_1 : w25.cell? ⟨gb219, 1, none⟩ = some (.string (⟨#[]⟩ : ByteArray)) := (blk_cell BK219.out 1).trans rfl; have hfz27_0 := blk_frozen BK219.out 0; have hfz27_1 := blk_frozen BK219.out 1) | ((with_reducible refine gate_callee (f := 165) rfl ?_); refine goesL_ (some 43) rfl rfl Tryd.func165 (by kernel_rfl) rfl #[.agg #[.string t202, .string t218]] rfl am ?_; (with_reducible refine (addr_why.calls kj12 t202 t218 t220 _ A22.out).mono ?_); rintro e w28 ⟨rfl, hb⟩; refine ⟨_, rfl, ?_⟩; have n0_ := Aside0.mk (blk_below (g := gb201) (o := .cells #[.string (⟨#[]⟩ : ByteArray), .string (⟨#[]⟩ : ByteArray)] 31 (0, 0)) (by (with_reducible repeat (first | refine blk_drewN ?_ _ | refine blk_drew ?_ | refine blk_alloc ?_ _)); refine blk_far ?_ NB201_219.out _; (with_reducible repeat (first | refine blk_drewN ?_ _ | refine blk_drew ?_ | refine blk_alloc ?_ _)); refine blk_far ?_ NB201_219.out _; (with_reducible repeat (first | refine blk_drewN ?_ _ | refine blk_drew ?_ | refine blk_alloc ?_ _)); exact BK201.out) hb); have n1_ := Aside0.mk (blk_below (g := gb219) (o := .cells #[.string t202, .string t218] 31 (0, 0)) (by (with_reducible repeat (first | refine blk_drewN ?_ _ | refine blk_drew ?_ | refine blk_alloc ?_ _)); refine blk_put (cs := #[.string t202, .string (⟨#[]⟩ : ByteArray)]) ?_ 1 _ rfl; (with_reducible repeat (first | refine blk_drewN ?_ _ | refine blk_drew ?_ | refine blk_alloc ?_ _)); exact blk_put (cs := #[.string (⟨#[]⟩ : ByteArray), .string (⟨#[]⟩ : ByteArray)]) bk 0 _ rfl) hb); have n2_ := Aside0.mk (below_step bwS hb); clear BK201; clear BK219; clear HB; have BK201 := n0_; have BK219 := n1_; have HB := n2_; clear n0_ n1_ n2_; (try clear hb); (try clear hb2); (try clear hk); (try clear hi); have hcz29_0 : w28.cell? ⟨gb219, 0, none⟩ = some (.string t202) := (blk_cell BK219.out 0).trans rfl; have hcz29_1 : w28.cell? ⟨gb219, 1, none⟩ = some (.string t218) := (blk_cell BK219.out 1).trans rfl; have hfz29_0 := blk_frozen BK219.out 0; have hfz29_1 := blk_frozen BK219.out 1; have hcz30_0 : w28.cell? ⟨gb201, 0, none⟩ = some (.string (⟨#[]⟩ : ByteArray)) := (blk_cell BK201.out 0).trans rfl; have hcz30_1 : w28.cell? ⟨gb201, 1, none⟩ = some (.string (⟨#[]⟩ : ByteArray)) := (blk_cell BK201.out 1).trans rfl; have hfz30_0 := blk_frozen BK201.out 0; have hfz30_1 := blk_frozen BK201.out 1))
       refine bodyPost_ret (results_ct rfl _ _ gb201 31 #[.string t202, .string t218] (0, 0) _ rfl (by (with_reducible repeat (first | refine blk_drewN ?_ _ | refine blk_drew ?_ | refine blk_alloc ?_ _)); refine blk_put (cs := #[.string t202, .string (⟨#[]⟩ : ByteArray)]) ?_ 1 _ rfl; (with_reducible repeat (first | refine blk_drewN ?_ _ | refine blk_drew ?_ | refine blk_alloc ?_ _)); exact blk_put (cs := #[.string (⟨#[]⟩ : ByteArray), .string (⟨#[]⟩ : ByteArray)]) bk 0 _ rfl) Tryd.underlying31 rfl (by kernel_rfl)) rfl ?_; exact ⟨ew, bwS⟩
      rw [if_neg c23] at H; have c23b0 := beq_eq_false_iff_ne.mpr c23; have c23b1 := bne_iff_ne.mpr c23; simp only [Option.some.injEq, Prod.mk.injEq] at H; obtain ⟨rfl, rfl, rfl⟩ := H
      go_wp2_with (first | ((with_reducible refine gate_callee (f := 26) rfl ?_); refine goesL_ (some 40) rfl rfl Tryd.func26 (by kernel_rfl) rfl #[.string t213] rfl am ?_; (with_reducible refine (glyph_Fold.calls t213 t218 _ A21.out).mono ?_); rintro e w31 ⟨rfl, hb⟩; refine ⟨_, rfl, ?_⟩; have n0_ := Aside0.mk (blk_below (g := gb201) (o := .cells #[.string (⟨#[]⟩ : ByteArray), .string (⟨#[]⟩ : ByteArray)] 31 (0, 0)) bk hb); have n1_ := Aside0.mk (below_step bwS hb); clear BK201; clear HB; have BK201 := n0_; have HB := n1_; clear n0_ n1_; (try clear hb); (try clear hb2); (try clear hk); (try clear hi)) | ((with_reducible refine gate_dst (N := 7) rfl ?_); (try (refine gate_guard (by rfl) ?_; dsimp only)); refine box_event ?hg (N := 7) ?hd (cs := #[.string (⟨#[]⟩ : ByteArray), .string (⟨#[]⟩ : ByteArray)]) (t := 31) ?hr ?_; (case hd => rfl); (case hg => rfl); (case hr => first | (go_simp; done) | (go_simp; rfl)); intro gb219 hg w32 hbox hb; have n0_ := Aside0.mk (blk_below (g := gb201) (o := .cells #[.string (⟨#[]⟩ : ByteArray), .string (⟨#[]⟩ : ByteArray)] 31 (0, 0)) bk hb); have n1_ := Aside0.mk (below_step bwS hb); have n2_ := Aside0.mk (hbox); have n3_ := Aside0.mk ((by rw [hg]; exact (below_size bwS) : w.heap.size ≤ gb219)); have n4_ := Aside0.mk ((by rw [hg]; exact (below_size bwS) : w.heap.size ≤ gb219)); have n5_ := Aside0.mk ((by rw [hg]; exact Nat.ne_of_lt (blk_lt (g := gb201) (o := .cells #[.string (⟨#[]⟩ : ByteArray), .string (⟨#[]⟩ : ByteArray)] 31 (0, 0)) bk) : gb201 ≠ gb219)); have n6_ := Aside0.mk ((by rw [hg]; exact Nat.ne_of_gt (blk_lt (g := gb201) (o := .cells #[.string (⟨#[]⟩ : ByteArray), .string (⟨#[]⟩ : ByteArray)] 31 (0, 0)) bk) : gb219 ≠ gb201)); clear BK201; clear HB; have BK201 := n0_; have HB := n1_; have BK219 := n2_; have GW219 := n3_; have GE219 := n4_; have NB201_219 := n5_; have NB219_201 := n6_; clear n0_ n1_ n2_ n3_ n4_ n5_ n6_; clear hb hbox hg; have hnb33 := NB219_201.out; have hnc33 := NB201_219.out; have hcz34_0 : w32.cell? ⟨gb219, 0, none⟩ = some (.string (⟨#[]⟩ : ByteArray)) := (blk_cell BK219.out 0).trans rfl; have hcz34_1 : w32.cell? ⟨gb219, 1, none⟩ = some (.string (⟨#[]⟩ : ByteArray)) := (blk_cell BK219.out 1).trans rfl; have hfz34_0 := blk_frozen BK219.out 0; have hfz34_1 := blk_frozen BK219.out 1) | ((with_reducible refine gate_callee (f := 165) rfl ?_); refine goesL_ (some 43) rfl rfl Tryd.func165 (by kernel_rfl) rfl #[.agg #[.string t202, .string t218]] rfl am ?_; (with_reducible refine (addr_why.calls kj12 t202 t218 t220 _ A22.out).mono ?_); rintro e w35 ⟨rfl, hb⟩; refine ⟨_, rfl, ?_⟩; have n0_ := Aside0.mk (blk_below (g := gb201) (o := .cells #[.string (⟨#[]⟩ : ByteArray), .string (⟨#[]⟩ : ByteArray)] 31 (0, 0)) (by (with_reducible repeat (first | refine blk_drewN ?_ _ | refine blk_drew ?_ | refine blk_alloc ?_ _)); refine blk_far ?_ NB201_219.out _; (with_reducible repeat (first | refine blk_drewN ?_ _ | refine blk_drew ?_ | refine blk_alloc ?_ _)); refine blk_far ?_ NB201_219.out _; (with_reducible repeat (first | refine blk_drewN ?_ _ | refine blk_drew ?_ | refine blk_alloc ?_ _)); exact BK201.out) hb); have n1_ := Aside0.mk (blk_below (g := gb219) (o := .cells #[.string t202, .string t218] 31 (0, 0)) (by (with_reducible repeat (first | refine blk_drewN ?_ _ | refine blk_drew ?_ | refine blk_alloc ?_ _)); refine blk_put (cs := #[.string t202, .string (⟨#[]⟩ : ByteArray)]) ?_ 1 _ rfl; (with_reducible repeat (first | refine blk_drewN ?_ _ | refine blk_drew ?_ | refine blk_alloc ?_ _)); exact blk_put (cs := #[.string (⟨#[]⟩ : ByteArray), .string (⟨#[]⟩ : ByteArray)]) bk 0 _ rfl) hb); have n2_ := Aside0.mk (below_step bwS hb); clear BK201; clear BK219; clear HB; have BK201 := n0_; have BK219 := n1_; have HB := n2_; clear n0_ n1_ n2_; (try clear hb); (try clear hb2); (try clear hk); (try clear hi); have hcz36_0 : w35.cell? ⟨gb201, 0, none⟩ = some (.string (⟨#[]⟩ : ByteArray)) := (blk_cell BK201.out 0).trans rfl; have hcz36_1 : w35.cell? ⟨gb201, 1, none⟩ = some (.string (⟨#[]⟩ : ByteArray)) := (blk_cell BK201.out 1).trans rfl; have hfz36_0 := blk_frozen BK201.out 0; have hfz36_1 := blk_frozen BK201.out 1))
      refine bodyPost_ret (results_ct rfl _ _ gb201 31 #[.string (⟨#[]⟩ : ByteArray), .string (⟨#[]⟩ : ByteArray)] (0, 0) _ rfl (by (with_reducible repeat (first | refine blk_drewN ?_ _ | refine blk_drew ?_ | refine blk_alloc ?_ _)); refine blk_put (cs := #[.string (⟨#[]⟩ : ByteArray), .string (⟨#[]⟩ : ByteArray)]) ?_ 1 _ rfl; (with_reducible repeat (first | refine blk_drewN ?_ _ | refine blk_drew ?_ | refine blk_alloc ?_ _)); exact blk_put (cs := #[.string (⟨#[]⟩ : ByteArray), .string (⟨#[]⟩ : ByteArray)]) bk 0 _ rfl) Tryd.underlying31 rfl (by kernel_rfl)) rfl ?_; exact ⟨ew, bwS⟩
   rw [if_neg c11] at H; exact absurd H (by simp)

end Go.Proofs.YtihabmcaplnbcaaDoor.Fn
set_option linter.unusedVariables false
namespace Go.Proofs.YtihabmcaplnbcaaDoor
open Go.ChangeShapes Go.WideShapes Go.ChangeAt Go.RowKit

/-! What all rows of this seat share: a world that meets the condition; the premises as the walks want them. -/
theorem own : ownKnob Tryd.prog.godebug = none := by kernel_rfl
theorem laidOut : laidOutB Tryd.prog = true := by kernel_rfl
def listed : List (String × DataW Unit) := [("unicode/utf8.acceptRanges", Rows.laid_unicode_utf8_acceptRanges), ("unicode/utf8.first", Rows.laid_unicode_utf8_first)]
noncomputable def laidWorld (os : Os) : World :=
 let w0 := World.holding Tryd.prog os ⟨#[], #[], []⟩
 let put (h : Array Obj) (g : Nat) (cs : Array Value) : Array Obj := h.modify g fun
  | .cells _ t frozen => .cells cs t frozen
  | o => o
 let h1 := put w0.heap 1 (Lib.firstTab.map fun z => Value.int .u8 z).toArray
 let h2 := put h1 2 ((List.range 16).flatMap fun i => [Value.int .u8 (Lib.accLo i), Value.int .u8 (Lib.accHi i)]).toArray
 { w0 with heap := h2 }
set_option maxRecDepth 100000 in
theorem laid_met (os : Os) (args : Array Value) : laidMetH Tryd.prog listed ((laidWorld os).forCall (fun _ _ => 0) ⟨#[], args, []⟩).memory :=
 laidMetH_of_parts (laidMet_of_run' 8 (by kernel_rfl) (by kernel_rfl)) (by kernel_rfl)

theorem lift_both {H : Type} {enc : TypeId × Value → H} {a : Assume} {C : Checked} {os : Os} {f : FuncId} {fn : Func} {s : ChangeSpec} {conds : List PathCond} {apart fresh handsOn again : Bool} {X : World → Array Value → Prop}
  (hX : ∀ (w w' : World) (args : Array Value), w.heap = w'.heap → X w args → X w' args)
  (own : ownKnob C.prog.godebug = none) (started : os.Started) (noInit : C.prog.inits.idxOf? f = none) (hfn : C.prog.funcs[f]? = some fn)
  (witness : ∃ (w : World) (tape : Tape) (i : Input), w.os = os ∧ (w.forCall tape i).Shaped C.prog ∧ i.vars = [] ∧ Input.okWide C.prog (w.forCall tape i) .any w.heap.size f i ∧
   ((s.pre enc C.prog fn conds apart (w.forCall tape i).memory i.args ∧ X (w.forCall tape i).memory i.args) ∧ sizedMet enc C.prog fn (OpenSpec.ofChange s) apart (w.forCall tape i).memory i.args) ∧ a.holds C.prog (lone (Frame.enter C.prog f i.args .normal) [] (w.forCall tape i)))
  (contract : ∀ (W : World) (base : Nat) (args : Array Value) (ds gs : List (DataW H)) (before : List MemPlace),
   (∀ (j : Nat) t v, fn.params[j]? = some t → args[j]? = some v → Value.okWide C.prog W .any base t v) →
   DataW.Whole enc C.prog fn.params.toList s.vars apart W args.toList ds gs before →
   (DataW.weightsEach C.prog (fn.params.toList ++ s.plain.varTypes C.prog) (ds ++ gs)).all (· ≤ reachBytes) = true → X W args → W.ShapedOpen C.prog →
   Calls C.prog f args W fun e W' => ∃ v, e = .returned v ∧ s.post enc C.prog fn apart fresh handsOn again W args v W') :
  ReturnsInHanded a C os f .any (fun w args => (s.pre enc C.prog fn conds apart w args ∧ X w args) ∧ sizedMet enc C.prog fn (OpenSpec.ofChange s) apart w args) (s.post enc C.prog fn apart fresh handsOn again) := by
 refine returnsInHanded_of_calls own started noInit witness ?_
 intro w tape i _ hsh _ hok hpre _
 obtain ⟨_, _, _, fn', hfn', _, _, _, _, hval⟩ := hok
 have e : fn' = fn := Option.some.inj (hfn'.symm.trans hfn)
 subst e
 obtain ⟨⟨⟨ds, gs, before, hw, _⟩, hx⟩, hz⟩ := hpre
 have hw' := DataW.Whole.of_heap (w' := w.forCall tape i) (by rfl) hw
 refine (contract (w.forCall tape i) w.heap.size i.args ds gs before hval hw' (hz.weights hw) (hX _ _ _ (by rfl) hx) hsh).mono fun e W' ⟨v, he, hp⟩ => ?_
 subst he
 exact ChangeSpec.post_blind hp
end Go.Proofs.YtihabmcaplnbcaaDoor
set_option linter.unusedVariables false
namespace Go.Proofs.YtihabmcaplnbcaaDoor.Fn
open Go.RowKit Go.Proofs.YtihabmcaplnbcaaDoorW.PrintWords

/-! The package variables that the walks read: unicode/utf8's tables; internal/bytealg.MaxLen, some number. -/
structure Glob (w : World) : Prop where
 tabs : Lib.Utf8Tabs 1 2 w
 max : ∃ m : Int, w.cell? ⟨0, 0, none⟩ = some (.int .i64 m)
theorem cell_inside {w : World} {a : Addr} {v : Value} (h : w.cell? a = some v) : a.block < w.heap.size := by
 obtain ⟨o, ho, _⟩ := not_walk_of_cell h
 exact (Array.getElem?_eq_some_iff.1 ho).1
theorem Glob.below {w W : World} (h : Glob w) (hb : Below w.heap.size w W) : Glob W := by
 obtain ⟨m, hm⟩ := h.max
 exact ⟨Utf8Tabs_below h.tabs hb, m, (hb.cell (cell_inside hm)).trans hm⟩
theorem Glob.drawn {w W : World} (h : Glob w) (hd : Drawn0 w W) : Glob W := h.below hd.below
theorem glob_of {W : World} (hL : laidMetH Tryd.prog listed W) (hS : W.ShapedOpen Tryd.prog) : Glob W := by
 have hL' : laidMet Tryd.prog listed W := hL
 have h1 : Lib.VarReads Tryd.prog W "unicode/utf8.first" Lib.firstData := by
  have := Lib.laidMet.reads hL' (n := "unicode/utf8.first") (d := Rows.laid_unicode_utf8_first) (.tail _ (.head _))
  rw [show Rows.laid_unicode_utf8_first = Lib.firstData from Pinned.utf8First_eq] at this
  exact this
 have h2 : Lib.VarReads Tryd.prog W "unicode/utf8.acceptRanges" Lib.acceptData := Lib.laidMet.reads hL' (.head _)
 refine ⟨utf8Tabs_of_reads (ρ := Tryd.lays260_ren) Tryd.lays260 ⟨by kernel_rfl, by kernel_rfl, by kernel_rfl, by kernel_rfl, by kernel_rfl, by kernel_rfl, by kernel_rfl⟩ h1 h2, ?_⟩
 exact cell_of_shapedOpen_int (P := Tryd.prog) (g := 0) (t := 3) (zero := #[.int .i64 0]) hS (of_decide_eq_true (by kernel_rfl)) (by kernel_rfl) rfl (by kernel_rfl) (by kernel_rfl) Tryd.underlying3
end Go.Proofs.YtihabmcaplnbcaaDoor.Fn
set_option linter.unusedVariables false
namespace Go.Proofs.YtihabmcaplnbcaaDoor.Fn
open Go.RowKit Go.Proofs.YtihabmcaplnbcaaDoorW.PrintWords

def strings_Contains.f (a0 a1 : ByteArray) : Option Bool := if a0.size < 4294967281 then some (Lib.contains a0.data.toList a1.data.toList) else none
theorem strings_Contains.calls (a0 a1 : ByteArray) (r : Bool) (w : World) (hG : Glob w) (h : strings_Contains.f a0 a1 = some r) :
  Calls Tryd.prog 40 #[.string a0, .string a1] w fun e w' => e = .returned (.bool r) ∧ Below w.heap.size w w' := by
 unfold strings_Contains.f at h
 by_cases hs : a0.size < 4294967281
 ·rw [if_pos hs] at h
  have HR := Option.some.inj h
  subst HR
  obtain ⟨m, hm⟩ := hG.max
  refine (Tryd.strings_Contains a0 a1 m w hs hm).mono ?_
  rintro e w' ⟨rfl, rfl⟩
  exact ⟨rfl, Below.refl _ _⟩
 rw [if_neg hs] at h
 exact absurd h (by simp)
end Go.Proofs.YtihabmcaplnbcaaDoor.Fn
namespace Go.Proofs.YtihabmcaplnbcaaDoor.Fn
open Go.RowKit Go.Proofs.YtihabmcaplnbcaaDoorW.PrintWords Go.Proofs.YtihabmcaplnbcaaDoorW.PrintLast Go.Proofs.YtihabmcaplnbcaaDoorW.PrintMore
attribute [local go_sem] max2_int min2_int max_two min_two max_three min_three max_four min_four
set_option linter.unusedVariables false
set_option linter.unusedSimpArgs false
def mbx_stops.f (a0_0 : Int) (a0_1 : ByteArray) : Option (Bool) := if a0_0 = 3 then ((strings_Contains.f (⟨#[44, 59, 58, 60, 62]⟩ : ByteArray) a0_1).bind fun t180 => (some t180)) else (some false)
set_option maxHeartbeats 8000000 in
set_option maxRecDepth 100000 in
theorem mbx_stops.calls (a0_0 : Int) (a0_1 : ByteArray) (r : Bool) (w : World) (hG : Glob w) (h : mbx_stops.f a0_0 a0_1 = some r) :
  Calls Tryd.prog 143 #[.agg #[.int .i64 a0_0, .string a0_1]] w fun e w' => e = .returned (.bool r) ∧ Below w.heap.size w w' := by
 have hu107 := Tryd.underlying107; have HB := Aside0.mk (Below.refl w.heap.size w); have H : (if a0_0 = 3 then ((strings_Contains.f (⟨#[44, 59, 58, 60, 62]⟩ : ByteArray) a0_1).bind fun t180 => (some t180)) else (some false)) = some r := h; clear h
 by_cases c2 : a0_0 = 3
 ·rw [if_pos c2] at H; have c2b0 := beq_iff_eq.mpr c2; have c2b1 := bne_eq_false_iff_eq.mpr c2; clear c2; replace H := Option.bind_eq_some_iff.mp H; obtain ⟨t180, A30, H⟩ := H; have A3 := Aside0.mk A30; clear A30; obtain rfl := Option.some.inj H
  go_enter Tryd.func143, Tryd.ntmps143
  go_wp2_with (first | ((with_reducible refine gate_dst (N := 1) rfl ?_); refine box_event ?hg (N := 1) ?hd (cs := #[.int .i64 a0_0, .string a0_1]) (t := 107) ?hr ?_; (case hd => rfl); (case hg => rfl); (case hr => first | (go_simp; done) | (go_simp; rfl)); intro gb179 hg w4 hbox hb; have n0_ := Aside0.mk (below_step bw hb); have n1_ := Aside0.mk (hbox); have n2_ := Aside0.mk ((by rw [hg]; exact (below_size bw) : w.heap.size ≤ gb179)); have n3_ := Aside0.mk ((by rw [hg]; exact (below_size bw) : w.heap.size ≤ gb179)); clear HB; have HB := n0_; have BK179 := n1_; have GW179 := n2_; have GE179 := n3_; clear n0_ n1_ n2_ n3_; clear hb hbox hg; have hcz5_0 : w4.cell? ⟨gb179, 0, none⟩ = some (.int .i64 a0_0) := (blk_cell BK179.out 0).trans rfl; have hcz5_1 : w4.cell? ⟨gb179, 1, none⟩ = some (.string a0_1) := (blk_cell BK179.out 1).trans rfl; have hfz5_0 := blk_frozen BK179.out 0; have hfz5_1 := blk_frozen BK179.out 1) | (go_at_call 40; (with_reducible refine (strings_Contains.calls (hG := by first | exact hG | exact Glob.below hG (by first | exact HB.out | (repeat (first | (with_reducible first | exact HB.out | apply below_alloc | apply pw_below_drewN | apply below_drew1 | refine below_set ?_ GE179.out) | exact HB.out))) | exact Glob.drawn hG (d0)) (⟨#[44, 59, 58, 60, 62]⟩ : ByteArray) a0_1 t180 _ A3.out).mono ?_); rintro e w6 ⟨rfl, hb⟩; have n0_ := Aside0.mk (blk_below (g := gb179) (o := .cells #[.int .i64 a0_0, .string a0_1] 107 (0, 0)) bk hb); have n1_ := Aside0.mk (below_step bwS hb); clear BK179; clear HB; have BK179 := n0_; have HB := n1_; clear n0_ n1_; (try clear hb); (try clear hb2); (try clear hk); (try clear hi)))
  go_ret
  exact ⟨ew, bwS⟩
 rw [if_neg c2] at H; have c2b0 := beq_eq_false_iff_ne.mpr c2; have c2b1 := bne_iff_ne.mpr c2; obtain rfl := Option.some.inj H
 go_enter Tryd.func143, Tryd.ntmps143
 go_wp2_with (first | ((with_reducible refine gate_dst (N := 1) rfl ?_); refine box_event ?hg (N := 1) ?hd (cs := #[.int .i64 a0_0, .string a0_1]) (t := 107) ?hr ?_; (case hd => rfl); (case hg => rfl); (case hr => first | (go_simp; done) | (go_simp; rfl)); intro gb179 hg w7 hbox hb; have n0_ := Aside0.mk (below_step bw hb); have n1_ := Aside0.mk (hbox); have n2_ := Aside0.mk ((by rw [hg]; exact (below_size bw) : w.heap.size ≤ gb179)); have n3_ := Aside0.mk ((by rw [hg]; exact (below_size bw) : w.heap.size ≤ gb179)); clear HB; have HB := n0_; have BK179 := n1_; have GW179 := n2_; have GE179 := n3_; clear n0_ n1_ n2_ n3_; clear hb hbox hg; have hcz8_0 : w7.cell? ⟨gb179, 0, none⟩ = some (.int .i64 a0_0) := (blk_cell BK179.out 0).trans rfl; have hcz8_1 : w7.cell? ⟨gb179, 1, none⟩ = some (.string a0_1) := (blk_cell BK179.out 1).trans rfl; have hfz8_0 := blk_frozen BK179.out 0; have hfz8_1 := blk_frozen BK179.out 1))
 go_ret
 exact ⟨ew, bwS⟩

end Go.Proofs.YtihabmcaplnbcaaDoor.Fn
set_option linter.unusedVariables false
namespace Go.Proofs.YtihabmcaplnbcaaDoor.Pl
open Go.RowKit Go.Proofs.YtihabmcaplnbcaaDoorW.PrintWords Go.Proofs.YtihabmcaplnbcaaDoor.Fn
end Go.Proofs.YtihabmcaplnbcaaDoor.Pl
set_option linter.unusedVariables false
namespace Go.Proofs.YtihabmcaplnbcaaDoor.Pl
open Go.RowKit Go.Proofs.YtihabmcaplnbcaaDoorW.PrintWords Go.Proofs.YtihabmcaplnbcaaDoor.Fn

/-! Capital letters, dots, quotes and the sign @. -/
theorem forall_byte {p : UInt8 → Prop} [DecidablePred p] (h : ∀ i : Fin 256, p (UInt8.ofNat i.val)) (c : UInt8) : p c := by
 have := h ⟨c.toNat, c.toNat_lt⟩
 simpa using this
def plainB (c : UInt8) : Bool := decide (32 ≤ c.toNat) && decide (c.toNat ≤ 126)
theorem glyphFold_is (s : ByteArray) (h : s.size ≤ 1000000000) : glyph_Fold.f s = some (str (fold (bs s))) := by
 unfold glyph_Fold.f
 rw [if_pos (by omega)]
 rfl

/-! plain: of all bytes -/
theorem plainFrom_bytes (s : ByteArray) : ∀ (f pos : Nat), s.size ≤ pos + f → pos ≤ s.size → plainFrom s f pos = ((bs s).drop pos).all plainB := by
 intro f
 induction f with
 | zero =>
  intro pos h1 h2
  rw [plainFrom, List.drop_of_length_le (by rw [bs_length]; omega)]
  rfl
 | succ f ih =>
  intro pos h1 h2
  rw [plainFrom]
  by_cases hp : pos < s.size
  ·rw [if_pos hp]
   have hl : pos < (bs s).length := by rw [bs_length]; exact hp
   have hd : (bs s).drop pos = (bs s)[pos] :: (bs s).drop (pos + 1) := List.drop_eq_getElem_cons hl
   rw [hd, List.all_cons]
   have hg : s.get! pos = (bs s)[pos] := by
    simp [ByteArray.get!, getElem!_pos, hp, bs]
   by_cases hb : (bs s)[pos].toNat < 128
   ·have hdec : Utf8.decode s pos = ((bs s)[pos].toNat, 1) := by
     rw [Lib.decode_at, hg]
     unfold Lib.decodeN
     rw [if_pos hb]
    rw [hdec]
    by_cases hpl : plainB (bs s)[pos] = true
    ·rw [if_pos (by exact hpl), ih (pos + 1) (by omega) (by omega), hpl, Bool.true_and]
    rw [if_neg (by exact hpl)]
    rw [Bool.not_eq_true] at hpl
    rw [hpl, Bool.false_and]
   have hdec : 128 ≤ (Utf8.decode s pos).1 := by
    rw [Lib.decode_at, hg]
    unfold Lib.decodeN
    rw [if_neg hb]
    have := (bs s)[pos].toNat_lt
    repeat' split
    all_goals (first | omega | (simp only []; omega))
   rw [if_neg (by unfold plainR; simp; omega)]
   have : plainB (bs s)[pos] = false := by unfold plainB; simp; omega
   rw [this, Bool.false_and]
  rw [if_neg hp, List.drop_of_length_le (by rw [bs_length]; omega)]
  rfl
theorem plain_L (s : ByteArray) : plain s = (bs s).all plainB := by
 unfold plain
 rw [plainFrom_bytes s s.size 0 (by omega) (by omega), List.drop_zero]
end Go.Proofs.YtihabmcaplnbcaaDoor.Pl
namespace Go.Proofs.YtihabmcaplnbcaaDoor.Fn
open Go.RowKit Go.Proofs.YtihabmcaplnbcaaDoorW.PrintWords Go.Proofs.YtihabmcaplnbcaaDoorW.PrintLast Go.Proofs.YtihabmcaplnbcaaDoorW.PrintMore
attribute [local go_sem] max2_int min2_int max_two min_two max_three min_three max_four min_four
set_option linter.unusedVariables false
set_option linter.unusedSimpArgs false
def bulletinref06_Fold.l0 : Nat → ByteArray → ByteArray → Int → Option (ByteArray)
 | 0, _, _, _ => none
 | k + 1, x0, x3, x4 => if x4 < (x0.size : Int) then (if 0 ≤ x4 then (if (bt x0 x4) ≥ 65 then (if (bt x0 x4) ≤ 90 then ((some (([((bt x0 x4) + 32) % 256] : List Int) : List Int)).bind fun y286 => (if x3.size + (strOfNums y286).size ≤ 9223372036854775807 then (bulletinref06_Fold.l0 k x0 (x3 ++ (strOfNums y286)) (wrap64 (x4 + 1))) else (none))) else (if x4 ≤ (wrap64 (x4 + 1)) then (if (wrap64 (x4 + 1)) ≤ (x0.size : Int) then (if x3.size + (x0.extract (x4 : Int).toNat ((wrap64 (x4 + 1)) : Int).toNat).size ≤ 9223372036854775807 then (bulletinref06_Fold.l0 k x0 (x3 ++ (x0.extract (x4 : Int).toNat ((wrap64 (x4 + 1)) : Int).toNat)) (wrap64 (x4 + 1))) else (none)) else (none)) else (none))) else (if x4 ≤ (wrap64 (x4 + 1)) then (if (wrap64 (x4 + 1)) ≤ (x0.size : Int) then (if x3.size + (x0.extract (x4 : Int).toNat ((wrap64 (x4 + 1)) : Int).toNat).size ≤ 9223372036854775807 then (bulletinref06_Fold.l0 k x0 (x3 ++ (x0.extract (x4 : Int).toNat ((wrap64 (x4 + 1)) : Int).toNat)) (wrap64 (x4 + 1))) else (none)) else (none)) else (none))) else (none)) else (some x3)
def bulletinref06_Fold.f (k : Nat) (a0 : ByteArray) : Option (ByteArray) := bulletinref06_Fold.l0 k a0 (⟨#[]⟩ : ByteArray) 0
set_option maxHeartbeats 8000000 in
set_option maxRecDepth 100000 in
theorem bulletinref06_Fold.calls (k : Nat) (a0 : ByteArray) (r : ByteArray) (w : World) (h : bulletinref06_Fold.f k a0 = some r) :
  Calls Tryd.prog 80 #[.string a0] w fun e w' => e = .returned (.string r) ∧ Below w.heap.size w w' := by
 have HB := Aside0.mk (Below.refl w.heap.size w); have H : (bulletinref06_Fold.l0 k a0 (⟨#[]⟩ : ByteArray) 0) = some r := h; clear h; have H' := Aside0.mk H; clear H
 go_enter Tryd.func80, Tryd.ntmps80
 go_wp2
 go_loopg [3, 4] k (fun kq v3 v4 w' => ∃ (x3_1 : ByteArray) (x4_1 : Int), v3 = .string x3_1 ∧ v4 = .int .i64 x4_1 ∧ Aside0 (bulletinref06_Fold.l0 kq a0 x3_1 x4_1 = some r) ∧ Aside0 (kq ≤ k) ∧ Aside0 (Below w.heap.size w w'))
 case atStart => exact ⟨((⟨#[]⟩ : ByteArray)), (0), cl, cl, H', ⟨Nat.le_refl _⟩, ⟨bw⟩⟩
 case round =>
  clear H'; obtain ⟨x3_1, x4_1, rfl, rfl, HA, HK1, HB⟩ := hrel; cases gk with
  | zero => exact absurd HA.out (by simp [bulletinref06_Fold.l0])
  | succ k1 =>
   have H := HA.out; clear HA; simp only [bulletinref06_Fold.l0] at H
   by_cases c2 : x4_1 < (a0.size : Int)
   ·rw [if_pos c2] at H; have c2b0 := decide_eq_true c2; clear c2
    by_cases c3 : 0 ≤ x4_1
    ·rw [if_pos c3] at H; have c3b0 := decide_eq_true c3; clear c3
     by_cases c5 : (bt a0 x4_1) ≥ 65
     ·rw [if_pos c5] at H; have c5b0 : decide (65 ≤ (bt a0 x4_1)) = true := decide_eq_true c5; clear c5
      by_cases c7 : (bt a0 x4_1) ≤ 90
      ·rw [if_pos c7] at H; have c7b0 := decide_eq_true c7; clear c7; obtain ⟨y286, hy286⟩ : ∃ y_ : List Int, y_ = (([((bt a0 x4_1) + 32) % 256] : List Int)) := ⟨_, rfl⟩
       replace H : (if x3_1.size + (strOfNums y286).size ≤ 9223372036854775807 then (bulletinref06_Fold.l0 k1 a0 (x3_1 ++ (strOfNums y286)) (wrap64 (x4_1 + 1))) else (none)) = some r := by first | (rw [hy286]; with_reducible exact H) | (have H2_ := (Option.bind_some _ _).symm.trans H; rw [hy286]; with_reducible exact H2_) | (have H2_ := (Option.bind_some _ _).symm.trans H; with_reducible exact H2_) | with_reducible exact H | (rw [hy286]; exact H) | exact H
       have Ny286 := Aside0.mk hy286; clear hy286
       by_cases c9 : x3_1.size + (strOfNums y286).size ≤ 9223372036854775807
       ·rw [if_pos c9] at H; have c9b0 := eq_true c9; have c9b1 := decide_eq_true c9
        try have c9b2 : (9223372036854775807 < x3_1.size + (strOfNums y286).size) = False := eq_false (Nat.not_lt.2 c9)
        have H' := Aside0.mk H; clear H; have p4 : 0 ≤ (x4_1 : Int) := od; have q4 : x4_1 < (a0.size : Int) := od; have hx4 := bt_at a0 x4_1; replace p4 := eq_true p4; replace q4 := eq_true q4; have p6 : 0 ≤ (x4_1 : Int) := od; have q6 : x4_1 < (a0.size : Int) := od; have hx6 := bt_at a0 x4_1; replace p6 := eq_true p6; replace q6 := eq_true q6; have p8 : 0 ≤ (x4_1 : Int) := od; have q8 : x4_1 < (a0.size : Int) := od; have hx8 := bt_at a0 x4_1; replace p8 := eq_true p8; replace q8 := eq_true q8
        go_wp2_with (first | ((with_reducible refine gate_dst (N := 26) rfl ?_); refine Kd.R_lit (Kd.int .u8) _ 5 ?hg (N := 26) ?hd (xs := ([((bt a0 x4_1) + 32) % 256] : List Int)) (inner := [.int .u8 (((bt a0 x4_1) + 32) % 256)]) (ok := fun _ => True) (okp := fun _ => True) ?hr ?hp (fun _ hk => hk) trivial (Below.refl _ _) (Nat.le_refl _) (by simp) ?_; (case hd => rfl); (case hg => rfl); (case hr => first | (go_simp; done) | (go_simp; rfl)); (case hp => exact (Reps.one (show Kd.M (Kd.int .u8) _ _ _ (((bt a0 x4_1) + 32) % 256) [.int .u8 (((bt a0 x4_1) + 32) % 256)] from rfl) (Reps.none _ _))); intro v287 w10 ho11 hb hg_ hnew_; clear hg_ hnew_; (first | rw [← Ny286.out] at ho11 | (simp only [Int.reduceToNat] at ho11; rw [← Ny286.out] at ho11)); have n0_ := Aside0.mk (Kd.R_lower ho11 (below_size bw)); have n1_ := Aside0.mk (below_step bw hb); clear HB; have HO288 := n0_; have HB := n1_; clear n0_ n1_; clear hb ho11; have hcv12 := own_string (P := Tryd.prog) Tryd.underlying83 Tryd.underlying5 Tryd.underlying9 (Kd.own_of_R HO288.out)))
        go_roundg k1
        case measure => have := HK1.out; omega
        case rel => exact ⟨(x3_1 ++ (strOfNums y286)), (wrap64 (x4_1 + 1)), cl, cl, H', ⟨by have := HK1.out; omega⟩, ⟨bw⟩⟩
       rw [if_neg c9] at H; exact absurd H (by simp)
      rw [if_neg c7] at H; have c7b0 := decide_eq_false c7; clear c7; have c13b0 := eq_true (od : 0 ≤ x4_1)
      by_cases c14 : x4_1 ≤ (wrap64 (x4_1 + 1))
      ·rw [if_pos c14] at H; have c14b0 := eq_true c14; have c14b1 := decide_eq_true c14
       by_cases c15 : (wrap64 (x4_1 + 1)) ≤ (a0.size : Int)
       ·rw [if_pos c15] at H; have c15b0 := eq_true c15; have c15b1 := decide_eq_true c15
        by_cases c16 : x3_1.size + (a0.extract (x4_1 : Int).toNat ((wrap64 (x4_1 + 1)) : Int).toNat).size ≤ 9223372036854775807
        ·rw [if_pos c16] at H; have c16b0 := eq_true c16; have c16b1 := decide_eq_true c16
         try have c16b2 : (9223372036854775807 < x3_1.size + (a0.extract (x4_1 : Int).toNat ((wrap64 (x4_1 + 1)) : Int).toNat).size) = False := eq_false (Nat.not_lt.2 c16)
         try (have c16b3 := c16; simp only [ByteArray.size_append, size_lit, ByteArray.size_extract, List.size_toArray, List.length_cons, List.length_nil, Nat.zero_add, Nat.reduceAdd] at c16b3; have c16b4 := eq_false (Nat.not_lt.2 c16b3))
         have H' := Aside0.mk H; clear H; have p4 : 0 ≤ (x4_1 : Int) := od; have q4 : x4_1 < (a0.size : Int) := od; have hx4 := bt_at a0 x4_1; replace p4 := eq_true p4; replace q4 := eq_true q4; have p6 : 0 ≤ (x4_1 : Int) := od; have q6 : x4_1 < (a0.size : Int) := od; have hx6 := bt_at a0 x4_1; replace p6 := eq_true p6; replace q6 := eq_true q6
         go_wp2
         go_roundg k1
         case measure => have := HK1.out; omega
         case rel => exact ⟨(x3_1 ++ (a0.extract (x4_1 : Int).toNat ((wrap64 (x4_1 + 1)) : Int).toNat)), (wrap64 (x4_1 + 1)), cl, cl, H', ⟨by have := HK1.out; omega⟩, ⟨bw⟩⟩
        rw [if_neg c16] at H; exact absurd H (by simp)
       rw [if_neg c15] at H; exact absurd H (by simp)
      rw [if_neg c14] at H; exact absurd H (by simp)
     rw [if_neg c5] at H; have c5b0 : decide (65 ≤ (bt a0 x4_1)) = false := decide_eq_false c5; clear c5; have c17b0 := eq_true (od : 0 ≤ x4_1)
     by_cases c18 : x4_1 ≤ (wrap64 (x4_1 + 1))
     ·rw [if_pos c18] at H; have c18b0 := eq_true c18; have c18b1 := decide_eq_true c18
      by_cases c19 : (wrap64 (x4_1 + 1)) ≤ (a0.size : Int)
      ·rw [if_pos c19] at H; have c19b0 := eq_true c19; have c19b1 := decide_eq_true c19
       by_cases c20 : x3_1.size + (a0.extract (x4_1 : Int).toNat ((wrap64 (x4_1 + 1)) : Int).toNat).size ≤ 9223372036854775807
       ·rw [if_pos c20] at H; have c20b0 := eq_true c20; have c20b1 := decide_eq_true c20
        try have c20b2 : (9223372036854775807 < x3_1.size + (a0.extract (x4_1 : Int).toNat ((wrap64 (x4_1 + 1)) : Int).toNat).size) = False := eq_false (Nat.not_lt.2 c20)
        try (have c20b3 := c20; simp only [ByteArray.size_append, size_lit, ByteArray.size_extract, List.size_toArray, List.length_cons, List.length_nil, Nat.zero_add, Nat.reduceAdd] at c20b3; have c20b4 := eq_false (Nat.not_lt.2 c20b3))
        have H' := Aside0.mk H; clear H; have p4 : 0 ≤ (x4_1 : Int) := od; have q4 : x4_1 < (a0.size : Int) := od; have hx4 := bt_at a0 x4_1; replace p4 := eq_true p4; replace q4 := eq_true q4
        go_wp2
        go_roundg k1
        case measure => have := HK1.out; omega
        case rel => exact ⟨(x3_1 ++ (a0.extract (x4_1 : Int).toNat ((wrap64 (x4_1 + 1)) : Int).toNat)), (wrap64 (x4_1 + 1)), cl, cl, H', ⟨by have := HK1.out; omega⟩, ⟨bw⟩⟩
       rw [if_neg c20] at H; exact absurd H (by simp)
      rw [if_neg c19] at H; exact absurd H (by simp)
     rw [if_neg c18] at H; exact absurd H (by simp)
    rw [if_neg c3] at H; exact absurd H (by simp)
   rw [if_neg c2] at H; have c2b0 := decide_eq_false c2; clear c2; obtain rfl := Option.some.inj H
   go_wp2
   go_ret
   exact ⟨ew, bw⟩

def bulletinref13_Split.l0 : Nat → ByteArray → Int → List ByteArray → ByteArray → Int → Option (List ByteArray)
 | 0, _, _, _, _, _ => none
 | k + 1, x0, x1, x5, x6, x7 => if x7 < (x0.size : Int) then (if 0 ≤ x7 then (if (bt x0 x7) = x1 then (if x5.length < 8796093022208 then (bulletinref13_Split.l0 k x0 x1 (x5 ++ [x6]) (⟨#[]⟩ : ByteArray) (wrap64 (x7 + 1))) else (none)) else (if x7 ≤ (wrap64 (x7 + 1)) then (if (wrap64 (x7 + 1)) ≤ (x0.size : Int) then (if x6.size + (x0.extract (x7 : Int).toNat ((wrap64 (x7 + 1)) : Int).toNat).size ≤ 9223372036854775807 then (bulletinref13_Split.l0 k x0 x1 x5 (x6 ++ (x0.extract (x7 : Int).toNat ((wrap64 (x7 + 1)) : Int).toNat)) (wrap64 (x7 + 1))) else (none)) else (none)) else (none))) else (none)) else (if x5.length < 8796093022208 then (some (x5 ++ [x6])) else (none))
def bulletinref13_Split.f (k : Nat) (a0 : ByteArray) (a1 : Int) : Option (List ByteArray) := bulletinref13_Split.l0 k a0 a1 ([] : List ByteArray) (⟨#[]⟩ : ByteArray) 0
set_option maxHeartbeats 8000000 in
set_option maxRecDepth 100000 in
theorem bulletinref13_Split.calls (k : Nat) (a0 : ByteArray) (a1 : Int) (r : List ByteArray) (w : World) (h : bulletinref13_Split.f k a0 a1 = some r) :
  Calls Tryd.prog 145 #[.string a0, .int .u8 a1] w fun e w' => ∃ v0_ : Value, e = .returned (v0_) ∧ Kd.R Kd.string 9 w' w.heap.size (fun _ => True) v0_ r ∧ Below w.heap.size w w' := by
 have HB := Aside0.mk (Below.refl w.heap.size w); have H : (bulletinref13_Split.l0 k a0 a1 ([] : List ByteArray) (⟨#[]⟩ : ByteArray) 0) = some r := h; clear h; have H' := Aside0.mk H; clear H
 go_enter Tryd.func145, Tryd.ntmps145
 go_wp2
 go_loopg [5, 6, 7] k (fun kq v5 v6 v7 w' => ∃ (x5_1 : List ByteArray) (x6_1 : ByteArray) (x7_1 : Int), v6 = .string x6_1 ∧ v7 = .int .i64 x7_1 ∧ Aside0 (bulletinref13_Split.l0 kq a0 a1 x5_1 x6_1 x7_1 = some r) ∧ Aside0 (kq ≤ k) ∧ Aside0 (Kd.R Kd.string 9 w' w.heap.size (fun _ => True) v5 x5_1) ∧ Aside0 (Below w.heap.size w w'))
 case atStart => exact ⟨(([] : List ByteArray)), ((⟨#[]⟩ : ByteArray)), (0), cl, cl, H', ⟨Nat.le_refl _⟩, ⟨by first | exact Kd.R_nil _ _ _ _ _ | exact Kd.N_nil _ _ _ _ _ | exact Kd.V_nil _ _ _ _ _ | exact Kd.Q_nil _ _ _ _ _ | exact Kd.S_nil _ _ _ _ _⟩, ⟨bw⟩⟩
 case round =>
  clear H'
  try clear c1
  try clear p2
  obtain ⟨x5_1, x6_1, x7_1, rfl, rfl, HA, HK1, HO_5, HB⟩ := hrel; cases gk with
  | zero => exact absurd HA.out (by simp [bulletinref13_Split.l0])
  | succ k1 =>
   have H := HA.out; clear HA; simp only [bulletinref13_Split.l0] at H
   by_cases c3 : x7_1 < (a0.size : Int)
   ·rw [if_pos c3] at H; have c3b0 := decide_eq_true c3; clear c3
    by_cases c4 : 0 ≤ x7_1
    ·rw [if_pos c4] at H; have c4b0 := decide_eq_true c4; clear c4
     by_cases c6 : (bt a0 x7_1) = a1
     ·rw [if_pos c6] at H; have c6b0 := beq_iff_eq.mpr c6; have c6b1 := bne_eq_false_iff_eq.mpr c6; clear c6
      by_cases c7 : x5_1.length < 8796093022208
      ·rw [if_pos c7] at H; have LMc7 := Aside0.mk c7; clear c7; obtain ⟨y289, hy289⟩ : ∃ y_ : List ByteArray, y_ = (x5_1 ++ [x6_1]) := ⟨_, rfl⟩
       replace H : (bulletinref13_Split.l0 k1 a0 a1 y289 (⟨#[]⟩ : ByteArray) (wrap64 (x7_1 + 1))) = some r := by first | (rw [hy289]; with_reducible exact H) | (have H2_ := (Option.bind_some _ _).symm.trans H; rw [hy289]; with_reducible exact H2_) | (have H2_ := (Option.bind_some _ _).symm.trans H; with_reducible exact H2_) | with_reducible exact H | (rw [hy289]; exact H) | exact H
       have Ny289 := Aside0.mk hy289; clear hy289; have H' := Aside0.mk H; clear H; have p5 : 0 ≤ (x7_1 : Int) := od; have q5 : x7_1 < (a0.size : Int) := od; have hx5 := bt_at a0 x7_1; replace p5 := eq_true p5; replace q5 := eq_true q5
       go_wp2_with (first | ((with_reducible refine gate_builtin (b := .append) (xs := #[.tmp 19, .tmp 21]) rfl ?_); at_builtin; refine Kd.R_append Kd.string (w0 := w) w.heap.size rfl (.tmp 19) (.tmp 21) 43 9 (.string ⟨#[]⟩) 16 rfl Tryd.underlying43 info9 rfl (by decide) (by omega) u5 x5_1 x6_1 [.string x6_1] (fun _ => True) (fun _ => False) rfl rfl ?aP (fun _ hk => hk.elim) ?aF ?aO ?aB ?aS ?aL ?_; (case aP => exact rfl); (case aB => exact bw); (case aF => exact (fun _ _ => trivial)); (case aO => exact (ra HO_5.out)); (case aS => exact (below_size bw)); (case aL => have := LMc7.out; omega); intro v290 w8 ho hb hg hat; rw [← Ny289.out] at ho; have n0_ := Aside0.mk (hb); have n1_ := Aside0.mk (ho); clear HB; clear HO_5; have HB := n0_; have HO291 := n1_; clear n0_ n1_; clear ho hb hg hat))
       go_roundg k1
       case measure => have := HK1.out; omega
       case rel => exact ⟨(y289), ((⟨#[]⟩ : ByteArray)), (wrap64 (x7_1 + 1)), cl, cl, H', ⟨by have := HK1.out; omega⟩, ⟨ra HO291.out⟩, ⟨bw⟩⟩
      rw [if_neg c7] at H; exact absurd H (by simp)
     rw [if_neg c6] at H; have c6b0 := beq_eq_false_iff_ne.mpr c6; have c6b1 := bne_iff_ne.mpr c6; have c9b0 := eq_true (od : 0 ≤ x7_1)
     by_cases c10 : x7_1 ≤ (wrap64 (x7_1 + 1))
     ·rw [if_pos c10] at H; have c10b0 := eq_true c10; have c10b1 := decide_eq_true c10
      by_cases c11 : (wrap64 (x7_1 + 1)) ≤ (a0.size : Int)
      ·rw [if_pos c11] at H; have c11b0 := eq_true c11; have c11b1 := decide_eq_true c11
       by_cases c12 : x6_1.size + (a0.extract (x7_1 : Int).toNat ((wrap64 (x7_1 + 1)) : Int).toNat).size ≤ 9223372036854775807
       ·rw [if_pos c12] at H; have c12b0 := eq_true c12; have c12b1 := decide_eq_true c12
        try have c12b2 : (9223372036854775807 < x6_1.size + (a0.extract (x7_1 : Int).toNat ((wrap64 (x7_1 + 1)) : Int).toNat).size) = False := eq_false (Nat.not_lt.2 c12)
        try (have c12b3 := c12; simp only [ByteArray.size_append, size_lit, ByteArray.size_extract, List.size_toArray, List.length_cons, List.length_nil, Nat.zero_add, Nat.reduceAdd] at c12b3; have c12b4 := eq_false (Nat.not_lt.2 c12b3))
        have H' := Aside0.mk H; clear H; have p5 : 0 ≤ (x7_1 : Int) := od; have q5 : x7_1 < (a0.size : Int) := od; have hx5 := bt_at a0 x7_1; replace p5 := eq_true p5; replace q5 := eq_true q5
        go_wp2
        go_roundg k1
        case measure => have := HK1.out; omega
        case rel => exact ⟨(x5_1), (x6_1 ++ (a0.extract (x7_1 : Int).toNat ((wrap64 (x7_1 + 1)) : Int).toNat)), (wrap64 (x7_1 + 1)), cl, cl, H', ⟨by have := HK1.out; omega⟩, ⟨ra HO_5.out⟩, ⟨bw⟩⟩
       rw [if_neg c12] at H; exact absurd H (by simp)
      rw [if_neg c11] at H; exact absurd H (by simp)
     rw [if_neg c10] at H; exact absurd H (by simp)
    rw [if_neg c4] at H; exact absurd H (by simp)
   rw [if_neg c3] at H; have c3b0 := decide_eq_false c3; clear c3
   by_cases c13 : x5_1.length < 8796093022208
   ·rw [if_pos c13] at H; have LMc13 := Aside0.mk c13; clear c13; obtain ⟨y292, hy292⟩ : ∃ y_ : List ByteArray, y_ = (x5_1 ++ [x6_1]) := ⟨_, rfl⟩
    replace H : (some y292) = some r := by first | (rw [hy292]; with_reducible exact H) | (have H2_ := (Option.bind_some _ _).symm.trans H; rw [hy292]; with_reducible exact H2_) | (have H2_ := (Option.bind_some _ _).symm.trans H; with_reducible exact H2_) | with_reducible exact H | (rw [hy292]; exact H) | exact H
    have Ny292 := Aside0.mk hy292; clear hy292; obtain rfl := Option.some.inj H
    go_wp2_with (first | ((with_reducible refine gate_builtin (b := .append) (xs := #[.tmp 30, .tmp 32]) rfl ?_); at_builtin; refine Kd.R_append Kd.string (w0 := w) w.heap.size rfl (.tmp 30) (.tmp 32) 43 9 (.string ⟨#[]⟩) 16 rfl Tryd.underlying43 info9 rfl (by decide) (by omega) u5 x5_1 x6_1 [.string x6_1] (fun _ => True) (fun _ => False) rfl rfl ?aP (fun _ hk => hk.elim) ?aF ?aO ?aB ?aS ?aL ?_; (case aP => exact rfl); (case aB => exact bw); (case aF => exact (fun _ _ => trivial)); (case aO => exact (ra HO_5.out)); (case aS => exact (below_size bw)); (case aL => have := LMc13.out; omega); intro v293 w14 ho hb hg hat; rw [← Ny292.out] at ho; have n0_ := Aside0.mk (hb); have n1_ := Aside0.mk (ho); clear HB; clear HO_5; have HB := n0_; have HO294 := n1_; clear n0_ n1_; clear ho hb hg hat))
    go_ret
    exact ⟨_, ew, ra HO294.out, bw⟩
   rw [if_neg c13] at H; exact absurd H (by simp)

end Go.Proofs.YtihabmcaplnbcaaDoor.Fn
namespace Go.Proofs.YtihabmcaplnbcaaDoor.Fn
open Go.RowKit Go.Proofs.YtihabmcaplnbcaaDoorW.PrintWords Go.Proofs.YtihabmcaplnbcaaDoorW.PrintLast Go.Proofs.YtihabmcaplnbcaaDoorW.PrintMore
attribute [local go_sem] max2_int min2_int max_two min_two max_three min_three max_four min_four
set_option linter.unusedVariables false
set_option linter.unusedSimpArgs false

mutual
def bulletinref13_label.l0 : Nat → ByteArray → Int → Option (Bool)
 | 0, _, _ => none
 | k + 1, x0, x3 => if x3 < (x0.size : Int) then (if 0 ≤ x3 then (if (bt x0 x3) ≥ 65 then (bulletinref13_label.j1 k x0 x3 (bt x0 x3) (decide ((bt x0 x3) ≤ 90))) else (bulletinref13_label.j1 k x0 x3 (bt x0 x3) false)) else (none)) else (some (x0.toList != ([] : List UInt8)))
def bulletinref13_label.j1 : Nat → ByteArray → Int → Int → Bool → Option (Bool)
 | 0, _, _, _, _ => none
 | k + 1, x0, x3, x4, x20 => if x20 = true then (if x3 = 0 then (if ((x4 + 32) % 256) ≥ 97 then (if ((x4 + 32) % 256) ≤ 122 then (bulletinref13_label.l0 k x0 (wrap64 (x3 + 1))) else (if ((x4 + 32) % 256) ≥ 48 then (if ((x4 + 32) % 256) ≤ 57 then (bulletinref13_label.l0 k x0 (wrap64 (x3 + 1))) else (if ((x4 + 32) % 256) = 45 then (some false) else (some false))) else (if ((x4 + 32) % 256) = 45 then (some false) else (some false)))) else (if ((x4 + 32) % 256) ≥ 48 then (if ((x4 + 32) % 256) ≤ 57 then (bulletinref13_label.l0 k x0 (wrap64 (x3 + 1))) else (if ((x4 + 32) % 256) = 45 then (some false) else (some false))) else (if ((x4 + 32) % 256) = 45 then (some false) else (some false)))) else (if ((x4 + 32) % 256) ≥ 97 then (if ((x4 + 32) % 256) ≤ 122 then (bulletinref13_label.l0 k x0 (wrap64 (x3 + 1))) else (if ((x4 + 32) % 256) ≥ 48 then (if ((x4 + 32) % 256) ≤ 57 then (bulletinref13_label.l0 k x0 (wrap64 (x3 + 1))) else (if ((x4 + 32) % 256) = 45 then (if x3 = (wrap64 ((x0.size : Int) - 1)) then (some false) else (bulletinref13_label.l0 k x0 (wrap64 (x3 + 1)))) else (some false))) else (if ((x4 + 32) % 256) = 45 then (if x3 = (wrap64 ((x0.size : Int) - 1)) then (some false) else (bulletinref13_label.l0 k x0 (wrap64 (x3 + 1)))) else (some false)))) else (if ((x4 + 32) % 256) ≥ 48 then (if ((x4 + 32) % 256) ≤ 57 then (bulletinref13_label.l0 k x0 (wrap64 (x3 + 1))) else (if ((x4 + 32) % 256) = 45 then (if x3 = (wrap64 ((x0.size : Int) - 1)) then (some false) else (bulletinref13_label.l0 k x0 (wrap64 (x3 + 1)))) else (some false))) else (if ((x4 + 32) % 256) = 45 then (if x3 = (wrap64 ((x0.size : Int) - 1)) then (some false) else (bulletinref13_label.l0 k x0 (wrap64 (x3 + 1)))) else (some false))))) else (if x3 = 0 then (if x4 ≥ 97 then (if x4 ≤ 122 then (bulletinref13_label.l0 k x0 (wrap64 (x3 + 1))) else (if x4 ≥ 48 then (if x4 ≤ 57 then (bulletinref13_label.l0 k x0 (wrap64 (x3 + 1))) else (if x4 = 45 then (some false) else (some false))) else (if x4 = 45 then (some false) else (some false)))) else (if x4 ≥ 48 then (if x4 ≤ 57 then (bulletinref13_label.l0 k x0 (wrap64 (x3 + 1))) else (if x4 = 45 then (some false) else (some false))) else (if x4 = 45 then (some false) else (some false)))) else (if x4 ≥ 97 then (if x4 ≤ 122 then (bulletinref13_label.l0 k x0 (wrap64 (x3 + 1))) else (if x4 ≥ 48 then (if x4 ≤ 57 then (bulletinref13_label.l0 k x0 (wrap64 (x3 + 1))) else (if x4 = 45 then (if x3 = (wrap64 ((x0.size : Int) - 1)) then (some false) else (bulletinref13_label.l0 k x0 (wrap64 (x3 + 1)))) else (some false))) else (if x4 = 45 then (if x3 = (wrap64 ((x0.size : Int) - 1)) then (some false) else (bulletinref13_label.l0 k x0 (wrap64 (x3 + 1)))) else (some false)))) else (if x4 ≥ 48 then (if x4 ≤ 57 then (bulletinref13_label.l0 k x0 (wrap64 (x3 + 1))) else (if x4 = 45 then (if x3 = (wrap64 ((x0.size : Int) - 1)) then (some false) else (bulletinref13_label.l0 k x0 (wrap64 (x3 + 1)))) else (some false))) else (if x4 = 45 then (if x3 = (wrap64 ((x0.size : Int) - 1)) then (some false) else (bulletinref13_label.l0 k x0 (wrap64 (x3 + 1)))) else (some false)))))
end
def bulletinref13_label.f (k : Nat) (a0 : ByteArray) : Option (Bool) := bulletinref13_label.l0 k a0 0
set_option maxHeartbeats 8000000 in
set_option maxRecDepth 100000 in
theorem bulletinref13_label.calls (k : Nat) (a0 : ByteArray) (r : Bool) (w : World) (h : bulletinref13_label.f k a0 = some r) :
  Calls Tryd.prog 146 #[.string a0] w fun e w' => e = .returned (.bool r) ∧ Drawn0 w w' := by
 have H : (bulletinref13_label.l0 k a0 0) = some r := h; clear h; have H' := Aside0.mk H; clear H
 go_enter Tryd.func146, Tryd.ntmps146
 go_wp2
 go_loopg [3] k (fun kq v3 w' => ∃ (x3_1 : Int), v3 = .int .i64 x3_1 ∧ Aside0 (bulletinref13_label.l0 kq a0 x3_1 = some r) ∧ Aside0 (kq ≤ k) ∧ Drawn0 w w')
 case atStart => exact ⟨(0), cl, H', ⟨Nat.le_refl _⟩, d0⟩
 case round =>
  clear H'
  try clear c1
  obtain ⟨x3_1, rfl, HA, HK1, ⟨m1, rfl⟩⟩ := hrel; cases gk with
  | zero => exact absurd HA.out (by simp [bulletinref13_label.l0])
  | succ k1 =>
   have H := HA.out; clear HA; simp only [bulletinref13_label.l0] at H
   by_cases c2 : x3_1 < (a0.size : Int)
   ·rw [if_pos c2] at H; have c2b0 := decide_eq_true c2; clear c2
    by_cases c3 : 0 ≤ x3_1
    ·rw [if_pos c3] at H; have c3b0 := decide_eq_true c3; clear c3; have HC5 := Aside0.mk H; clear H; have p4 : 0 ≤ (x3_1 : Int) := od; have q4 : x3_1 < (a0.size : Int) := od; have hx4 := bt_at a0 x3_1; replace p4 := eq_true p4; replace q4 := eq_true q4
     go_upto_region 5 with (fail)
     go_cut [20] (fun v20 wc => ∃ (kq : Nat) (x20_4 : Bool), v20 = .bool x20_4 ∧ Aside0 (bulletinref13_label.j1 kq a0 x3_1 (bt a0 x3_1) x20_4 = some r) ∧ Aside0 (kq ≤ k1) ∧ Drawn0 w wc)
     case first =>
      have H := HC5.out; clear HC5
      by_cases c6 : (bt a0 x3_1) ≥ 65
      ·rw [if_pos c6] at H; have c6b0 : decide (65 ≤ (bt a0 x3_1)) = true := decide_eq_true c6; clear c6
       (first | rw [c6b0] | (simp only [i64_w, i32_w]; rw [c6b0]) | skip)
       have H' := Aside0.mk H; clear H
       go_wp2
       go_meet
       case rel => exact ⟨_, (decide ((bt a0 x3_1) ≤ 90)), cl, H', ⟨by have := HK1.out; first | omega | exact Nat.le_refl _⟩, d0⟩
      rw [if_neg c6] at H; have c6b0 : decide (65 ≤ (bt a0 x3_1)) = false := decide_eq_false c6; clear c6
      (first | rw [c6b0] | (simp only [i64_w, i32_w]; rw [c6b0]) | skip)
      have H' := Aside0.mk H; clear H
      go_wp2
      go_meet
      case rel => exact ⟨_, (false), cl, H', ⟨by have := HK1.out; first | omega | exact Nat.le_refl _⟩, d0⟩
     case rest =>
      clear HC5
      try clear c1
      try clear c2
      try clear c2b0
      try clear p2
      try clear c3
      try clear c3b0
      try clear p4
      try clear q4
      try clear hx4
      try clear c6
      try clear c6b0
      try clear p4
      try clear q4
      obtain ⟨kq, x20_4, rfl, HA, HJ4, ⟨mc4, rfl⟩⟩ := hcut; cases kq with
      | zero => exact absurd HA.out (by simp [bulletinref13_label.j1])
      | succ kj4 =>
       have H := HA.out; clear HA; simp only [bulletinref13_label.j1] at H
       by_cases c7 : x20_4 = true
       ·subst c7; rw [if_pos rfl] at H
        by_cases c8 : x3_1 = 0
        ·rw [if_pos c8] at H; have c8b0 := beq_iff_eq.mpr c8; have c8b1 := bne_eq_false_iff_eq.mpr c8; clear c8
         by_cases c9 : (((bt a0 x3_1) + 32) % 256) ≥ 97
         ·rw [if_pos c9] at H; have c9b0 : decide (97 ≤ (((bt a0 x3_1) + 32) % 256)) = true := decide_eq_true c9; clear c9
          by_cases c10 : (((bt a0 x3_1) + 32) % 256) ≤ 122
          ·rw [if_pos c10] at H; have c10b0 := decide_eq_true c10; clear c10; have H' := Aside0.mk H; clear H
           go_wp2
           go_roundg kj4
           case measure => have := HK1.out; have := HJ4.out; omega
           case rel => exact ⟨(wrap64 (x3_1 + 1)), cl, H', ⟨by have := HK1.out; have := HJ4.out; omega⟩, d0⟩
          rw [if_neg c10] at H; have c10b0 := decide_eq_false c10; clear c10
          by_cases c11 : (((bt a0 x3_1) + 32) % 256) ≥ 48
          ·rw [if_pos c11] at H; have c11b0 : decide (48 ≤ (((bt a0 x3_1) + 32) % 256)) = true := decide_eq_true c11; clear c11
           by_cases c12 : (((bt a0 x3_1) + 32) % 256) ≤ 57
           ·rw [if_pos c12] at H; have c12b0 := decide_eq_true c12; clear c12; have H' := Aside0.mk H; clear H
            go_wp2
            go_roundg kj4
            case measure => have := HK1.out; have := HJ4.out; omega
            case rel => exact ⟨(wrap64 (x3_1 + 1)), cl, H', ⟨by have := HK1.out; have := HJ4.out; omega⟩, d0⟩
           rw [if_neg c12] at H; have c12b0 := decide_eq_false c12; clear c12
           by_cases c13 : (((bt a0 x3_1) + 32) % 256) = 45
           ·rw [if_pos c13] at H; have c13b0 := beq_iff_eq.mpr c13; have c13b1 := bne_eq_false_iff_eq.mpr c13; clear c13; obtain rfl := Option.some.inj H
            go_wp2
            go_ret
            exact ⟨cl, d0⟩
           rw [if_neg c13] at H; have c13b0 := beq_eq_false_iff_ne.mpr c13; have c13b1 := bne_iff_ne.mpr c13; obtain rfl := Option.some.inj H
           go_wp2
           go_ret
           exact ⟨cl, d0⟩
          rw [if_neg c11] at H; have c11b0 : decide (48 ≤ (((bt a0 x3_1) + 32) % 256)) = false := decide_eq_false c11; clear c11
          by_cases c14 : (((bt a0 x3_1) + 32) % 256) = 45
          ·rw [if_pos c14] at H; have c14b0 := beq_iff_eq.mpr c14; have c14b1 := bne_eq_false_iff_eq.mpr c14; clear c14; obtain rfl := Option.some.inj H
           go_wp2
           go_ret
           exact ⟨cl, d0⟩
          rw [if_neg c14] at H; have c14b0 := beq_eq_false_iff_ne.mpr c14; have c14b1 := bne_iff_ne.mpr c14; obtain rfl := Option.some.inj H
          go_wp2
          go_ret
          exact ⟨cl, d0⟩
         rw [if_neg c9] at H; have c9b0 : decide (97 ≤ (((bt a0 x3_1) + 32) % 256)) = false := decide_eq_false c9; clear c9
         by_cases c15 : (((bt a0 x3_1) + 32) % 256) ≥ 48
         ·rw [if_pos c15] at H; have c15b0 : decide (48 ≤ (((bt a0 x3_1) + 32) % 256)) = true := decide_eq_true c15; clear c15
          by_cases c16 : (((bt a0 x3_1) + 32) % 256) ≤ 57
          ·rw [if_pos c16] at H; have c16b0 := decide_eq_true c16; clear c16; have H' := Aside0.mk H; clear H
           go_wp2
           go_roundg kj4
           case measure => have := HK1.out; have := HJ4.out; omega
           case rel => exact ⟨(wrap64 (x3_1 + 1)), cl, H', ⟨by have := HK1.out; have := HJ4.out; omega⟩, d0⟩
          rw [if_neg c16] at H; have c16b0 := decide_eq_false c16; clear c16
          by_cases c17 : (((bt a0 x3_1) + 32) % 256) = 45
          ·rw [if_pos c17] at H; have c17b0 := beq_iff_eq.mpr c17; have c17b1 := bne_eq_false_iff_eq.mpr c17; clear c17; obtain rfl := Option.some.inj H
           go_wp2
           go_ret
           exact ⟨cl, d0⟩
          rw [if_neg c17] at H; have c17b0 := beq_eq_false_iff_ne.mpr c17; have c17b1 := bne_iff_ne.mpr c17; obtain rfl := Option.some.inj H
          go_wp2
          go_ret
          exact ⟨cl, d0⟩
         rw [if_neg c15] at H; have c15b0 : decide (48 ≤ (((bt a0 x3_1) + 32) % 256)) = false := decide_eq_false c15; clear c15
         by_cases c18 : (((bt a0 x3_1) + 32) % 256) = 45
         ·rw [if_pos c18] at H; have c18b0 := beq_iff_eq.mpr c18; have c18b1 := bne_eq_false_iff_eq.mpr c18; clear c18; obtain rfl := Option.some.inj H
          go_wp2
          go_ret
          exact ⟨cl, d0⟩
         rw [if_neg c18] at H; have c18b0 := beq_eq_false_iff_ne.mpr c18; have c18b1 := bne_iff_ne.mpr c18; obtain rfl := Option.some.inj H
         go_wp2
         go_ret
         exact ⟨cl, d0⟩
        rw [if_neg c8] at H; have c8b0 := beq_eq_false_iff_ne.mpr c8; have c8b1 := bne_iff_ne.mpr c8
        by_cases c19 : (((bt a0 x3_1) + 32) % 256) ≥ 97
        ·rw [if_pos c19] at H; have c19b0 : decide (97 ≤ (((bt a0 x3_1) + 32) % 256)) = true := decide_eq_true c19; clear c19
         by_cases c20 : (((bt a0 x3_1) + 32) % 256) ≤ 122
         ·rw [if_pos c20] at H; have c20b0 := decide_eq_true c20; clear c20; have H' := Aside0.mk H; clear H
          go_wp2
          go_roundg kj4
          case measure => have := HK1.out; have := HJ4.out; omega
          case rel => exact ⟨(wrap64 (x3_1 + 1)), cl, H', ⟨by have := HK1.out; have := HJ4.out; omega⟩, d0⟩
         rw [if_neg c20] at H; have c20b0 := decide_eq_false c20; clear c20
         by_cases c21 : (((bt a0 x3_1) + 32) % 256) ≥ 48
         ·rw [if_pos c21] at H; have c21b0 : decide (48 ≤ (((bt a0 x3_1) + 32) % 256)) = true := decide_eq_true c21; clear c21
          by_cases c22 : (((bt a0 x3_1) + 32) % 256) ≤ 57
          ·rw [if_pos c22] at H; have c22b0 := decide_eq_true c22; clear c22; have H' := Aside0.mk H; clear H
           go_wp2
           go_roundg kj4
           case measure => have := HK1.out; have := HJ4.out; omega
           case rel => exact ⟨(wrap64 (x3_1 + 1)), cl, H', ⟨by have := HK1.out; have := HJ4.out; omega⟩, d0⟩
          rw [if_neg c22] at H; have c22b0 := decide_eq_false c22; clear c22
          by_cases c23 : (((bt a0 x3_1) + 32) % 256) = 45
          ·rw [if_pos c23] at H; have c23b0 := beq_iff_eq.mpr c23; have c23b1 := bne_eq_false_iff_eq.mpr c23; clear c23
           by_cases c24 : x3_1 = (wrap64 ((a0.size : Int) - 1))
           ·rw [if_pos c24] at H; have c24b0 := beq_iff_eq.mpr c24; have c24b1 := bne_eq_false_iff_eq.mpr c24; clear c24; obtain rfl := Option.some.inj H
            go_wp2
            go_ret
            exact ⟨cl, d0⟩
           rw [if_neg c24] at H; have c24b0 := beq_eq_false_iff_ne.mpr c24; have c24b1 := bne_iff_ne.mpr c24; have H' := Aside0.mk H; clear H
           go_wp2
           go_roundg kj4
           case measure => have := HK1.out; have := HJ4.out; omega
           case rel => exact ⟨(wrap64 (x3_1 + 1)), cl, H', ⟨by have := HK1.out; have := HJ4.out; omega⟩, d0⟩
          rw [if_neg c23] at H; have c23b0 := beq_eq_false_iff_ne.mpr c23; have c23b1 := bne_iff_ne.mpr c23; obtain rfl := Option.some.inj H
          go_wp2
          go_ret
          exact ⟨cl, d0⟩
         rw [if_neg c21] at H; have c21b0 : decide (48 ≤ (((bt a0 x3_1) + 32) % 256)) = false := decide_eq_false c21; clear c21
         by_cases c25 : (((bt a0 x3_1) + 32) % 256) = 45
         ·rw [if_pos c25] at H; have c25b0 := beq_iff_eq.mpr c25; have c25b1 := bne_eq_false_iff_eq.mpr c25; clear c25
          by_cases c26 : x3_1 = (wrap64 ((a0.size : Int) - 1))
          ·rw [if_pos c26] at H; have c26b0 := beq_iff_eq.mpr c26; have c26b1 := bne_eq_false_iff_eq.mpr c26; clear c26; obtain rfl := Option.some.inj H
           go_wp2
           go_ret
           exact ⟨cl, d0⟩
          rw [if_neg c26] at H; have c26b0 := beq_eq_false_iff_ne.mpr c26; have c26b1 := bne_iff_ne.mpr c26; have H' := Aside0.mk H; clear H
          go_wp2
          go_roundg kj4
          case measure => have := HK1.out; have := HJ4.out; omega
          case rel => exact ⟨(wrap64 (x3_1 + 1)), cl, H', ⟨by have := HK1.out; have := HJ4.out; omega⟩, d0⟩
         rw [if_neg c25] at H; have c25b0 := beq_eq_false_iff_ne.mpr c25; have c25b1 := bne_iff_ne.mpr c25; obtain rfl := Option.some.inj H
         go_wp2
         go_ret
         exact ⟨cl, d0⟩
        rw [if_neg c19] at H; have c19b0 : decide (97 ≤ (((bt a0 x3_1) + 32) % 256)) = false := decide_eq_false c19; clear c19
        by_cases c27 : (((bt a0 x3_1) + 32) % 256) ≥ 48
        ·rw [if_pos c27] at H; have c27b0 : decide (48 ≤ (((bt a0 x3_1) + 32) % 256)) = true := decide_eq_true c27; clear c27
         by_cases c28 : (((bt a0 x3_1) + 32) % 256) ≤ 57
         ·rw [if_pos c28] at H; have c28b0 := decide_eq_true c28; clear c28; have H' := Aside0.mk H; clear H
          go_wp2
          go_roundg kj4
          case measure => have := HK1.out; have := HJ4.out; omega
          case rel => exact ⟨(wrap64 (x3_1 + 1)), cl, H', ⟨by have := HK1.out; have := HJ4.out; omega⟩, d0⟩
         rw [if_neg c28] at H; have c28b0 := decide_eq_false c28; clear c28
         by_cases c29 : (((bt a0 x3_1) + 32) % 256) = 45
         ·rw [if_pos c29] at H; have c29b0 := beq_iff_eq.mpr c29; have c29b1 := bne_eq_false_iff_eq.mpr c29; clear c29
          by_cases c30 : x3_1 = (wrap64 ((a0.size : Int) - 1))
          ·rw [if_pos c30] at H; have c30b0 := beq_iff_eq.mpr c30; have c30b1 := bne_eq_false_iff_eq.mpr c30; clear c30; obtain rfl := Option.some.inj H
           go_wp2
           go_ret
           exact ⟨cl, d0⟩
          rw [if_neg c30] at H; have c30b0 := beq_eq_false_iff_ne.mpr c30; have c30b1 := bne_iff_ne.mpr c30; have H' := Aside0.mk H; clear H
          go_wp2
          go_roundg kj4
          case measure => have := HK1.out; have := HJ4.out; omega
          case rel => exact ⟨(wrap64 (x3_1 + 1)), cl, H', ⟨by have := HK1.out; have := HJ4.out; omega⟩, d0⟩
         rw [if_neg c29] at H; have c29b0 := beq_eq_false_iff_ne.mpr c29; have c29b1 := bne_iff_ne.mpr c29; obtain rfl := Option.some.inj H
         go_wp2
         go_ret
         exact ⟨cl, d0⟩
        rw [if_neg c27] at H; have c27b0 : decide (48 ≤ (((bt a0 x3_1) + 32) % 256)) = false := decide_eq_false c27; clear c27
        by_cases c31 : (((bt a0 x3_1) + 32) % 256) = 45
        ·rw [if_pos c31] at H; have c31b0 := beq_iff_eq.mpr c31; have c31b1 := bne_eq_false_iff_eq.mpr c31; clear c31
         by_cases c32 : x3_1 = (wrap64 ((a0.size : Int) - 1))
         ·rw [if_pos c32] at H; have c32b0 := beq_iff_eq.mpr c32; have c32b1 := bne_eq_false_iff_eq.mpr c32; clear c32; obtain rfl := Option.some.inj H
          go_wp2
          go_ret
          exact ⟨cl, d0⟩
         rw [if_neg c32] at H; have c32b0 := beq_eq_false_iff_ne.mpr c32; have c32b1 := bne_iff_ne.mpr c32; have H' := Aside0.mk H; clear H
         go_wp2
         go_roundg kj4
         case measure => have := HK1.out; have := HJ4.out; omega
         case rel => exact ⟨(wrap64 (x3_1 + 1)), cl, H', ⟨by have := HK1.out; have := HJ4.out; omega⟩, d0⟩
        rw [if_neg c31] at H; have c31b0 := beq_eq_false_iff_ne.mpr c31; have c31b1 := bne_iff_ne.mpr c31; obtain rfl := Option.some.inj H
        go_wp2
        go_ret
        exact ⟨cl, d0⟩
       replace c7 := Bool.eq_false_iff.mpr c7; subst c7; rw [if_neg nft] at H
       by_cases c33 : x3_1 = 0
       ·rw [if_pos c33] at H; have c33b0 := beq_iff_eq.mpr c33; have c33b1 := bne_eq_false_iff_eq.mpr c33; clear c33
        by_cases c34 : (bt a0 x3_1) ≥ 97
        ·rw [if_pos c34] at H; have c34b0 : decide (97 ≤ (bt a0 x3_1)) = true := decide_eq_true c34; clear c34
         by_cases c35 : (bt a0 x3_1) ≤ 122
         ·rw [if_pos c35] at H; have c35b0 := decide_eq_true c35; clear c35; have H' := Aside0.mk H; clear H
          go_wp2
          go_roundg kj4
          case measure => have := HK1.out; have := HJ4.out; omega
          case rel => exact ⟨(wrap64 (x3_1 + 1)), cl, H', ⟨by have := HK1.out; have := HJ4.out; omega⟩, d0⟩
         rw [if_neg c35] at H; have c35b0 := decide_eq_false c35; clear c35
         by_cases c36 : (bt a0 x3_1) ≥ 48
         ·rw [if_pos c36] at H; have c36b0 : decide (48 ≤ (bt a0 x3_1)) = true := decide_eq_true c36; clear c36
          by_cases c37 : (bt a0 x3_1) ≤ 57
          ·rw [if_pos c37] at H; have c37b0 := decide_eq_true c37; clear c37; have H' := Aside0.mk H; clear H
           go_wp2
           go_roundg kj4
           case measure => have := HK1.out; have := HJ4.out; omega
           case rel => exact ⟨(wrap64 (x3_1 + 1)), cl, H', ⟨by have := HK1.out; have := HJ4.out; omega⟩, d0⟩
          rw [if_neg c37] at H; have c37b0 := decide_eq_false c37; clear c37
          by_cases c38 : (bt a0 x3_1) = 45
          ·rw [if_pos c38] at H; have c38b0 := beq_iff_eq.mpr c38; have c38b1 := bne_eq_false_iff_eq.mpr c38; clear c38; obtain rfl := Option.some.inj H
           go_wp2
           go_ret
           exact ⟨cl, d0⟩
          rw [if_neg c38] at H; have c38b0 := beq_eq_false_iff_ne.mpr c38; have c38b1 := bne_iff_ne.mpr c38; obtain rfl := Option.some.inj H
          go_wp2
          go_ret
          exact ⟨cl, d0⟩
         rw [if_neg c36] at H; have c36b0 : decide (48 ≤ (bt a0 x3_1)) = false := decide_eq_false c36; clear c36
         by_cases c39 : (bt a0 x3_1) = 45
         ·rw [if_pos c39] at H; have c39b0 := beq_iff_eq.mpr c39; have c39b1 := bne_eq_false_iff_eq.mpr c39; clear c39; obtain rfl := Option.some.inj H
          go_wp2
          go_ret
          exact ⟨cl, d0⟩
         rw [if_neg c39] at H; have c39b0 := beq_eq_false_iff_ne.mpr c39; have c39b1 := bne_iff_ne.mpr c39; obtain rfl := Option.some.inj H
         go_wp2
         go_ret
         exact ⟨cl, d0⟩
        rw [if_neg c34] at H; have c34b0 : decide (97 ≤ (bt a0 x3_1)) = false := decide_eq_false c34; clear c34
        by_cases c40 : (bt a0 x3_1) ≥ 48
        ·rw [if_pos c40] at H; have c40b0 : decide (48 ≤ (bt a0 x3_1)) = true := decide_eq_true c40; clear c40
         by_cases c41 : (bt a0 x3_1) ≤ 57
         ·rw [if_pos c41] at H; have c41b0 := decide_eq_true c41; clear c41; have H' := Aside0.mk H; clear H
          go_wp2
          go_roundg kj4
          case measure => have := HK1.out; have := HJ4.out; omega
          case rel => exact ⟨(wrap64 (x3_1 + 1)), cl, H', ⟨by have := HK1.out; have := HJ4.out; omega⟩, d0⟩
         rw [if_neg c41] at H; have c41b0 := decide_eq_false c41; clear c41
         by_cases c42 : (bt a0 x3_1) = 45
         ·rw [if_pos c42] at H; have c42b0 := beq_iff_eq.mpr c42; have c42b1 := bne_eq_false_iff_eq.mpr c42; clear c42; obtain rfl := Option.some.inj H
          go_wp2
          go_ret
          exact ⟨cl, d0⟩
         rw [if_neg c42] at H; have c42b0 := beq_eq_false_iff_ne.mpr c42; have c42b1 := bne_iff_ne.mpr c42; obtain rfl := Option.some.inj H
         go_wp2
         go_ret
         exact ⟨cl, d0⟩
        rw [if_neg c40] at H; have c40b0 : decide (48 ≤ (bt a0 x3_1)) = false := decide_eq_false c40; clear c40
        by_cases c43 : (bt a0 x3_1) = 45
        ·rw [if_pos c43] at H; have c43b0 := beq_iff_eq.mpr c43; have c43b1 := bne_eq_false_iff_eq.mpr c43; clear c43; obtain rfl := Option.some.inj H
         go_wp2
         go_ret
         exact ⟨cl, d0⟩
        rw [if_neg c43] at H; have c43b0 := beq_eq_false_iff_ne.mpr c43; have c43b1 := bne_iff_ne.mpr c43; obtain rfl := Option.some.inj H
        go_wp2
        go_ret
        exact ⟨cl, d0⟩
       rw [if_neg c33] at H; have c33b0 := beq_eq_false_iff_ne.mpr c33; have c33b1 := bne_iff_ne.mpr c33
       by_cases c44 : (bt a0 x3_1) ≥ 97
       ·rw [if_pos c44] at H; have c44b0 : decide (97 ≤ (bt a0 x3_1)) = true := decide_eq_true c44; clear c44
        by_cases c45 : (bt a0 x3_1) ≤ 122
        ·rw [if_pos c45] at H; have c45b0 := decide_eq_true c45; clear c45; have H' := Aside0.mk H; clear H
         go_wp2
         go_roundg kj4
         case measure => have := HK1.out; have := HJ4.out; omega
         case rel => exact ⟨(wrap64 (x3_1 + 1)), cl, H', ⟨by have := HK1.out; have := HJ4.out; omega⟩, d0⟩
        rw [if_neg c45] at H; have c45b0 := decide_eq_false c45; clear c45
        by_cases c46 : (bt a0 x3_1) ≥ 48
        ·rw [if_pos c46] at H; have c46b0 : decide (48 ≤ (bt a0 x3_1)) = true := decide_eq_true c46; clear c46
         by_cases c47 : (bt a0 x3_1) ≤ 57
         ·rw [if_pos c47] at H; have c47b0 := decide_eq_true c47; clear c47; have H' := Aside0.mk H; clear H
          go_wp2
          go_roundg kj4
          case measure => have := HK1.out; have := HJ4.out; omega
          case rel => exact ⟨(wrap64 (x3_1 + 1)), cl, H', ⟨by have := HK1.out; have := HJ4.out; omega⟩, d0⟩
         rw [if_neg c47] at H; have c47b0 := decide_eq_false c47; clear c47
         by_cases c48 : (bt a0 x3_1) = 45
         ·rw [if_pos c48] at H; have c48b0 := beq_iff_eq.mpr c48; have c48b1 := bne_eq_false_iff_eq.mpr c48; clear c48
          by_cases c49 : x3_1 = (wrap64 ((a0.size : Int) - 1))
          ·rw [if_pos c49] at H; have c49b0 := beq_iff_eq.mpr c49; have c49b1 := bne_eq_false_iff_eq.mpr c49; clear c49; obtain rfl := Option.some.inj H
           go_wp2
           go_ret
           exact ⟨cl, d0⟩
          rw [if_neg c49] at H; have c49b0 := beq_eq_false_iff_ne.mpr c49; have c49b1 := bne_iff_ne.mpr c49; have H' := Aside0.mk H; clear H
          go_wp2
          go_roundg kj4
          case measure => have := HK1.out; have := HJ4.out; omega
          case rel => exact ⟨(wrap64 (x3_1 + 1)), cl, H', ⟨by have := HK1.out; have := HJ4.out; omega⟩, d0⟩
         rw [if_neg c48] at H; have c48b0 := beq_eq_false_iff_ne.mpr c48; have c48b1 := bne_iff_ne.mpr c48; obtain rfl := Option.some.inj H
         go_wp2
         go_ret
         exact ⟨cl, d0⟩
        rw [if_neg c46] at H; have c46b0 : decide (48 ≤ (bt a0 x3_1)) = false := decide_eq_false c46; clear c46
        by_cases c50 : (bt a0 x3_1) = 45
        ·rw [if_pos c50] at H; have c50b0 := beq_iff_eq.mpr c50; have c50b1 := bne_eq_false_iff_eq.mpr c50; clear c50
         by_cases c51 : x3_1 = (wrap64 ((a0.size : Int) - 1))
         ·rw [if_pos c51] at H; have c51b0 := beq_iff_eq.mpr c51; have c51b1 := bne_eq_false_iff_eq.mpr c51; clear c51; obtain rfl := Option.some.inj H
          go_wp2
          go_ret
          exact ⟨cl, d0⟩
         rw [if_neg c51] at H; have c51b0 := beq_eq_false_iff_ne.mpr c51; have c51b1 := bne_iff_ne.mpr c51; have H' := Aside0.mk H; clear H
         go_wp2
         go_roundg kj4
         case measure => have := HK1.out; have := HJ4.out; omega
         case rel => exact ⟨(wrap64 (x3_1 + 1)), cl, H', ⟨by have := HK1.out; have := HJ4.out; omega⟩, d0⟩
        rw [if_neg c50] at H; have c50b0 := beq_eq_false_iff_ne.mpr c50; have c50b1 := bne_iff_ne.mpr c50; obtain rfl := Option.some.inj H
        go_wp2
        go_ret
        exact ⟨cl, d0⟩
       rw [if_neg c44] at H; have c44b0 : decide (97 ≤ (bt a0 x3_1)) = false := decide_eq_false c44; clear c44
       by_cases c52 : (bt a0 x3_1) ≥ 48
       ·rw [if_pos c52] at H; have c52b0 : decide (48 ≤ (bt a0 x3_1)) = true := decide_eq_true c52; clear c52
        by_cases c53 : (bt a0 x3_1) ≤ 57
        ·rw [if_pos c53] at H; have c53b0 := decide_eq_true c53; clear c53; have H' := Aside0.mk H; clear H
         go_wp2
         go_roundg kj4
         case measure => have := HK1.out; have := HJ4.out; omega
         case rel => exact ⟨(wrap64 (x3_1 + 1)), cl, H', ⟨by have := HK1.out; have := HJ4.out; omega⟩, d0⟩
        rw [if_neg c53] at H; have c53b0 := decide_eq_false c53; clear c53
        by_cases c54 : (bt a0 x3_1) = 45
        ·rw [if_pos c54] at H; have c54b0 := beq_iff_eq.mpr c54; have c54b1 := bne_eq_false_iff_eq.mpr c54; clear c54
         by_cases c55 : x3_1 = (wrap64 ((a0.size : Int) - 1))
         ·rw [if_pos c55] at H; have c55b0 := beq_iff_eq.mpr c55; have c55b1 := bne_eq_false_iff_eq.mpr c55; clear c55; obtain rfl := Option.some.inj H
          go_wp2
          go_ret
          exact ⟨cl, d0⟩
         rw [if_neg c55] at H; have c55b0 := beq_eq_false_iff_ne.mpr c55; have c55b1 := bne_iff_ne.mpr c55; have H' := Aside0.mk H; clear H
         go_wp2
         go_roundg kj4
         case measure => have := HK1.out; have := HJ4.out; omega
         case rel => exact ⟨(wrap64 (x3_1 + 1)), cl, H', ⟨by have := HK1.out; have := HJ4.out; omega⟩, d0⟩
        rw [if_neg c54] at H; have c54b0 := beq_eq_false_iff_ne.mpr c54; have c54b1 := bne_iff_ne.mpr c54; obtain rfl := Option.some.inj H
        go_wp2
        go_ret
        exact ⟨cl, d0⟩
       rw [if_neg c52] at H; have c52b0 : decide (48 ≤ (bt a0 x3_1)) = false := decide_eq_false c52; clear c52
       by_cases c56 : (bt a0 x3_1) = 45
       ·rw [if_pos c56] at H; have c56b0 := beq_iff_eq.mpr c56; have c56b1 := bne_eq_false_iff_eq.mpr c56; clear c56
        by_cases c57 : x3_1 = (wrap64 ((a0.size : Int) - 1))
        ·rw [if_pos c57] at H; have c57b0 := beq_iff_eq.mpr c57; have c57b1 := bne_eq_false_iff_eq.mpr c57; clear c57; obtain rfl := Option.some.inj H
         go_wp2
         go_ret
         exact ⟨cl, d0⟩
        rw [if_neg c57] at H; have c57b0 := beq_eq_false_iff_ne.mpr c57; have c57b1 := bne_iff_ne.mpr c57; have H' := Aside0.mk H; clear H
        go_wp2
        go_roundg kj4
        case measure => have := HK1.out; have := HJ4.out; omega
        case rel => exact ⟨(wrap64 (x3_1 + 1)), cl, H', ⟨by have := HK1.out; have := HJ4.out; omega⟩, d0⟩
       rw [if_neg c56] at H; have c56b0 := beq_eq_false_iff_ne.mpr c56; have c56b1 := bne_iff_ne.mpr c56; obtain rfl := Option.some.inj H
       go_wp2
       go_ret
       exact ⟨cl, d0⟩
    rw [if_neg c3] at H; exact absurd H (by simp)
   rw [if_neg c2] at H; have c2b0 := decide_eq_false c2; clear c2; obtain rfl := Option.some.inj H
   go_wp2
   go_ret
   exact ⟨cl, d0⟩

end Go.Proofs.YtihabmcaplnbcaaDoor.Fn
namespace Go.Proofs.YtihabmcaplnbcaaDoor.Fn
open Go.RowKit Go.Proofs.YtihabmcaplnbcaaDoorW.PrintWords Go.Proofs.YtihabmcaplnbcaaDoorW.PrintLast Go.Proofs.YtihabmcaplnbcaaDoorW.PrintMore
attribute [local go_sem] max2_int min2_int max_two min_two max_three min_three max_four min_four
set_option linter.unusedVariables false
set_option linter.unusedSimpArgs false
def bulletinref13_Domain.l0 : Nat → ByteArray → List ByteArray → Bool → Int → Option (ByteArray × Int)
 | 0, _, _, _, _ => none
 | k + 1, x0, x4, x5, x6 => if x6 < (x4.length : Int) then (if 0 ≤ x6 then ((bulletinref13_label.f k (rdOf ByteArray.empty x4 x6)).bind fun t300 => (if t300 = true then (if ((rdOf ByteArray.empty x4 x6).size : Int) > 63 then (bulletinref13_Domain.l0 k x0 x4 true (wrap64 (x6 + 1))) else (bulletinref13_Domain.l0 k x0 x4 x5 (wrap64 (x6 + 1)))) else (some ((⟨#[]⟩ : ByteArray), 130)))) else (none)) else (if x5 = true then (some ((⟨#[]⟩ : ByteArray), 2)) else ((bulletinref06_Fold.f k x0).bind fun t298 => (some (t298, 0))))
def bulletinref13_Domain.f (k : Nat) (a0 : ByteArray) : Option (ByteArray × Int) := (bulletinref13_Split.f k a0 46).bind fun t295 => (bulletinref13_Domain.l0 k a0 t295 (decide ((a0.size : Int) > 253)) 0)
set_option maxHeartbeats 8000000 in
set_option maxRecDepth 100000 in
theorem bulletinref13_Domain.calls (k : Nat) (a0 : ByteArray) (r1 : ByteArray) (r2 : Int) (w : World) (h : bulletinref13_Domain.f k a0 = some (r1, r2)) :
  Calls Tryd.prog 118 #[.string a0] w fun e w' => e = .returned (.tuple #[.string r1, .int .i64 r2]) ∧ Below w.heap.size w w' := by
 have HB := Aside0.mk (Below.refl w.heap.size w); have H : ((bulletinref13_Split.f k a0 46).bind fun t295 => (bulletinref13_Domain.l0 k a0 t295 (decide ((a0.size : Int) > 253)) 0)) = some (r1, r2) := h; clear h; replace H := Option.bind_eq_some_iff.mp H; obtain ⟨t295, A20, H⟩ := H; have A2 := Aside0.mk A20; clear A20; have H' := Aside0.mk H; clear H
 go_enter Tryd.func118, Tryd.ntmps118
 go_wp2_with (first | ((with_reducible refine gate_callee (f := 145) rfl ?_); refine goesL_ (some 8) rfl rfl Tryd.func145 (by kernel_rfl) rfl #[.string a0, .int .u8 46] rfl am ?_; (with_reducible refine (bulletinref13_Split.calls k a0 46 t295 _ A2.out).mono ?_); rintro e w3 ⟨v296, rfl, ho0, hb⟩; refine ⟨_, rfl, ?_⟩; have n0_ := Aside0.mk (Kd.R_lower ho0 (below_size bw)); have n1_ := Aside0.mk (below_step bw hb); clear HB; have HO297 := n0_; have HB := n1_; clear n0_ n1_; (try clear hb); (try clear hb2); (try clear hk); (try clear hi); (try clear ho0)))
 go_loopg [5, 6] k (fun kq v5 v6 w' => ∃ (x5_1 : Bool) (x6_1 : Int), v5 = .bool x5_1 ∧ v6 = .int .i64 x6_1 ∧ Aside0 (bulletinref13_Domain.l0 kq a0 t295 x5_1 x6_1 = some (r1, r2)) ∧ Aside0 (kq ≤ k) ∧ Aside0 (Kd.R Kd.string 9 w' w.heap.size (fun _ => True) v296 t295) ∧ Aside0 (Below w.heap.size w w'))
 case atStart => exact ⟨(decide ((a0.size : Int) > 253)), (0), cl, cl, H', ⟨Nat.le_refl _⟩, ⟨ra HO297.out⟩, ⟨bw⟩⟩
 case round =>
  clear H'
  try clear c1
  try clear p2
  obtain ⟨x5_1, x6_1, rfl, rfl, HA, HK1, HO_4, HB⟩ := hrel; cases gk with
  | zero => exact absurd HA.out (by simp [bulletinref13_Domain.l0])
  | succ k1 =>
   have H := HA.out; clear HA; simp only [bulletinref13_Domain.l0] at H
   by_cases c4 : x6_1 < (t295.length : Int)
   ·rw [if_pos c4] at H; have c4b0 := decide_eq_true c4; clear c4
    by_cases c5 : 0 ≤ x6_1
    ·rw [if_pos c5] at H; have c5b0 := decide_eq_true c5; clear c5; replace H := Option.bind_eq_some_iff.mp H; obtain ⟨t300, A60, H⟩ := H; have A6 := Aside0.mk A60; clear A60
     by_cases c7 : t300 = true
     ·subst c7; rw [if_pos rfl] at H
      by_cases c8 : ((rdOf ByteArray.empty t295 x6_1).size : Int) > 63
      ·rw [if_pos c8] at H; have c8b0 : decide (63 < ((rdOf ByteArray.empty t295 x6_1).size : Int)) = true := decide_eq_true c8; have c8b1 : decide (63 < (rdOf ByteArray.empty t295 x6_1).size) = true := decide_eq_true (by omega); clear c8; have H' := Aside0.mk H; clear H; obtain ⟨Ao9, co9, eo9⟩ := Kd.R_slice HO_4.out; subst eo9; have p299 : 0 ≤ (x6_1 : Int) := od; have q299 : x6_1 < (t295.length : Int) := od; obtain ⟨ad299, e299, hx299_0⟩ := Kd.at_string (Kd.R_reads' HO_4.out).2.2 x6_1 p299 q299; cases e299; replace p299 := eq_true p299; replace q299 := eq_true q299
       go_wp2_with (first | ((with_reducible refine gate_callee (f := 146) rfl ?_); refine goesL_ (some 22) rfl rfl Tryd.func146 (by kernel_rfl) rfl #[.string (rdOf ByteArray.empty t295 x6_1)] rfl am ?_; (with_reducible refine (bulletinref13_label.calls k1 (rdOf ByteArray.empty t295 x6_1) true _ A6.out).mono ?_); rintro e w' ⟨rfl, ⟨nd, rfl⟩⟩; refine ⟨_, rfl, ?_⟩; have p301 : 0 ≤ (x6_1 : Int) := od; have q301 : x6_1 < (t295.length : Int) := od; obtain ⟨ad301, e301, hx301_0⟩ := Kd.at_string (Kd.R_reads' HO_4.out).2.2 x6_1 p301 q301; obtain rfl : ad299 = ad301 := (by injection e301); replace p301 := eq_true p301; replace q301 := eq_true q301))
       go_roundg k1
       case measure => have := HK1.out; omega
       case rel => exact ⟨(true), (wrap64 (x6_1 + 1)), cl, cl, H', ⟨by have := HK1.out; omega⟩, ⟨ra HO_4.out⟩, ⟨bw⟩⟩
      rw [if_neg c8] at H; have c8b0 : decide (63 < ((rdOf ByteArray.empty t295 x6_1).size : Int)) = false := decide_eq_false c8; have c8b1 : decide (63 < (rdOf ByteArray.empty t295 x6_1).size) = false := decide_eq_false (by omega); clear c8; have H' := Aside0.mk H; clear H; obtain ⟨Ao10, co10, eo10⟩ := Kd.R_slice HO_4.out; subst eo10; have p299 : 0 ≤ (x6_1 : Int) := od; have q299 : x6_1 < (t295.length : Int) := od; obtain ⟨ad299, e299, hx299_0⟩ := Kd.at_string (Kd.R_reads' HO_4.out).2.2 x6_1 p299 q299; cases e299; replace p299 := eq_true p299; replace q299 := eq_true q299
      go_wp2_with (first | ((with_reducible refine gate_callee (f := 146) rfl ?_); refine goesL_ (some 22) rfl rfl Tryd.func146 (by kernel_rfl) rfl #[.string (rdOf ByteArray.empty t295 x6_1)] rfl am ?_; (with_reducible refine (bulletinref13_label.calls k1 (rdOf ByteArray.empty t295 x6_1) true _ A6.out).mono ?_); rintro e w' ⟨rfl, ⟨nd, rfl⟩⟩; refine ⟨_, rfl, ?_⟩; have p301 : 0 ≤ (x6_1 : Int) := od; have q301 : x6_1 < (t295.length : Int) := od; obtain ⟨ad301, e301, hx301_0⟩ := Kd.at_string (Kd.R_reads' HO_4.out).2.2 x6_1 p301 q301; obtain rfl : ad299 = ad301 := (by injection e301); replace p301 := eq_true p301; replace q301 := eq_true q301))
      go_roundg k1
      case measure => have := HK1.out; omega
      case rel => exact ⟨(x5_1), (wrap64 (x6_1 + 1)), cl, cl, H', ⟨by have := HK1.out; omega⟩, ⟨ra HO_4.out⟩, ⟨bw⟩⟩
     replace c7 := Bool.eq_false_iff.mpr c7; subst c7; rw [if_neg nft] at H; simp only [Option.some.injEq, Prod.mk.injEq] at H; obtain ⟨rfl, rfl⟩ := H; obtain ⟨Ao11, co11, eo11⟩ := Kd.R_slice HO_4.out; subst eo11; have p299 : 0 ≤ (x6_1 : Int) := od; have q299 : x6_1 < (t295.length : Int) := od; obtain ⟨ad299, e299, hx299_0⟩ := Kd.at_string (Kd.R_reads' HO_4.out).2.2 x6_1 p299 q299; cases e299; replace p299 := eq_true p299; replace q299 := eq_true q299
     go_wp2_with (first | ((with_reducible refine gate_callee (f := 146) rfl ?_); refine goesL_ (some 22) rfl rfl Tryd.func146 (by kernel_rfl) rfl #[.string (rdOf ByteArray.empty t295 x6_1)] rfl am ?_; (with_reducible refine (bulletinref13_label.calls k1 (rdOf ByteArray.empty t295 x6_1) false _ A6.out).mono ?_); rintro e w' ⟨rfl, ⟨nd, rfl⟩⟩; refine ⟨_, rfl, ?_⟩))
     go_ret2
     exact ⟨ew, bw⟩
    rw [if_neg c5] at H; exact absurd H (by simp)
   rw [if_neg c4] at H; have c4b0 := decide_eq_false c4; clear c4
   by_cases c12 : x5_1 = true
   ·subst c12; rw [if_pos rfl] at H; simp only [Option.some.injEq, Prod.mk.injEq] at H; obtain ⟨rfl, rfl⟩ := H; obtain ⟨Ao13, co13, eo13⟩ := Kd.R_slice HO_4.out; subst eo13
    go_wp2
    go_ret2
    exact ⟨ew, bw⟩
   replace c12 := Bool.eq_false_iff.mpr c12; subst c12; rw [if_neg nft] at H; replace H := Option.bind_eq_some_iff.mp H; obtain ⟨t298, A140, H⟩ := H; have A14 := Aside0.mk A140; clear A140; simp only [Option.some.injEq, Prod.mk.injEq] at H; obtain ⟨rfl, rfl⟩ := H; obtain ⟨Ao15, co15, eo15⟩ := Kd.R_slice HO_4.out; subst eo15
   go_wp2_with (first | ((with_reducible refine gate_callee (f := 80) rfl ?_); refine goesL_ (some 32) rfl rfl Tryd.func80 (by kernel_rfl) rfl #[.string a0] rfl am ?_; (with_reducible refine (bulletinref06_Fold.calls k1 a0 t298 _ A14.out).mono ?_); rintro e w16 ⟨rfl, hb⟩; refine ⟨_, rfl, ?_⟩; have n0_ := Aside0.mk (Kd.R_below (ra HO_4.out) hb); have n1_ := Aside0.mk (below_step bw hb); clear HO_4; clear HB; have HO_4 := n0_; have HB := n1_; clear n0_ n1_; (try clear hb); (try clear hb2); (try clear hk); (try clear hi)))
   go_ret2
   exact ⟨ew, bw⟩

def bulletinref12_Text.f (a0 : Int) : Option (Bool) := if a0 = 9 then (some true) else (if a0 ≥ 32 then (if a0 ≤ 126 then (some true) else (some (decide (a0 > 127)))) else (some (decide (a0 > 127))))
set_option maxHeartbeats 8000000 in
set_option maxRecDepth 100000 in
theorem bulletinref12_Text.calls (a0 : Int) (r : Bool) (w : World) (h : bulletinref12_Text.f a0 = some r) :
  Calls Tryd.prog 77 #[.int .u8 a0] w fun e w' => e = .returned (.bool r) ∧ Drawn0 w w' := by
 have H : (if a0 = 9 then (some true) else (if a0 ≥ 32 then (if a0 ≤ 126 then (some true) else (some (decide (a0 > 127)))) else (some (decide (a0 > 127))))) = some r := h; clear h
 by_cases c2 : a0 = 9
 ·rw [if_pos c2] at H; have c2b0 := beq_iff_eq.mpr c2; have c2b1 := bne_eq_false_iff_eq.mpr c2; clear c2; obtain rfl := Option.some.inj H
  go_enter Tryd.func77, Tryd.ntmps77
  go_wp2
  go_ret
  exact ⟨cl, d0⟩
 rw [if_neg c2] at H; have c2b0 := beq_eq_false_iff_ne.mpr c2; have c2b1 := bne_iff_ne.mpr c2
 by_cases c3 : a0 ≥ 32
 ·rw [if_pos c3] at H; have c3b0 : decide (32 ≤ a0) = true := decide_eq_true c3; clear c3
  by_cases c4 : a0 ≤ 126
  ·rw [if_pos c4] at H; have c4b0 := decide_eq_true c4; clear c4; obtain rfl := Option.some.inj H
   go_enter Tryd.func77, Tryd.ntmps77
   go_wp2
   go_ret
   exact ⟨cl, d0⟩
  rw [if_neg c4] at H; have c4b0 := decide_eq_false c4; clear c4; obtain rfl := Option.some.inj H
  go_enter Tryd.func77, Tryd.ntmps77
  go_wp2
  go_ret
  exact ⟨cl, d0⟩
 rw [if_neg c3] at H; have c3b0 : decide (32 ≤ a0) = false := decide_eq_false c3; clear c3; obtain rfl := Option.some.inj H
 go_enter Tryd.func77, Tryd.ntmps77
 go_wp2
 go_ret
 exact ⟨cl, d0⟩

end Go.Proofs.YtihabmcaplnbcaaDoor.Fn
namespace Go.Proofs.YtihabmcaplnbcaaDoor.Fn
open Go.RowKit Go.Proofs.YtihabmcaplnbcaaDoorW.PrintWords Go.Proofs.YtihabmcaplnbcaaDoorW.PrintLast Go.Proofs.YtihabmcaplnbcaaDoorW.PrintMore
attribute [local go_sem] max2_int min2_int max_two min_two max_three min_three max_four min_four
set_option linter.unusedVariables false
set_option linter.unusedSimpArgs false

mutual
def bulletinref12_Quote.l0 : Nat → ByteArray → ByteArray → Int → Option (ByteArray)
 | 0, _, _, _ => none
 | k + 1, x0, x3, x4 => if x4 < (x0.size : Int) then (if 0 ≤ x4 then (if x4 ≤ (wrap64 (x4 + 1)) then (if (wrap64 (x4 + 1)) ≤ (x0.size : Int) then (if (bt x0 x4) = 34 then (bulletinref12_Quote.j1 k x0 x3 x4 (x0.extract (x4 : Int).toNat ((wrap64 (x4 + 1)) : Int).toNat) true) else (bulletinref12_Quote.j1 k x0 x3 x4 (x0.extract (x4 : Int).toNat ((wrap64 (x4 + 1)) : Int).toNat) ((bt x0 x4) == 92))) else (none)) else (none)) else (none)) else (if 1 + x3.size ≤ 9223372036854775807 then (if ((⟨#[34]⟩ : ByteArray) ++ x3).size + 1 ≤ 9223372036854775807 then (some (((⟨#[34]⟩ : ByteArray) ++ x3) ++ (⟨#[34]⟩ : ByteArray))) else (none)) else (none))
def bulletinref12_Quote.j1 : Nat → ByteArray → ByteArray → Int → ByteArray → Bool → Option (ByteArray)
 | 0, _, _, _, _, _ => none
 | k + 1, x0, x3, x4, x5, x26 => if x26 = true then (if 1 + x5.size ≤ 9223372036854775807 then (if 0 ≤ x4 then (if x4 < (x0.size : Int) then ((bulletinref12_Text.f (bt x0 x4)).bind fun t308 => (if t308 = true then (if x3.size + ((⟨#[92]⟩ : ByteArray) ++ x5).size ≤ 9223372036854775807 then (bulletinref12_Quote.l0 k x0 (x3 ++ ((⟨#[92]⟩ : ByteArray) ++ x5)) (wrap64 (x4 + 1))) else (none)) else (if x3.size + 1 ≤ 9223372036854775807 then (bulletinref12_Quote.l0 k x0 (x3 ++ (⟨#[32]⟩ : ByteArray)) (wrap64 (x4 + 1))) else (none)))) else (none)) else (none)) else (none)) else (if 0 ≤ x4 then (if x4 < (x0.size : Int) then ((bulletinref12_Text.f (bt x0 x4)).bind fun t309 => (if t309 = true then (if x3.size + x5.size ≤ 9223372036854775807 then (bulletinref12_Quote.l0 k x0 (x3 ++ x5) (wrap64 (x4 + 1))) else (none)) else (if x3.size + 1 ≤ 9223372036854775807 then (bulletinref12_Quote.l0 k x0 (x3 ++ (⟨#[32]⟩ : ByteArray)) (wrap64 (x4 + 1))) else (none)))) else (none)) else (none))
end
def bulletinref12_Quote.f (k : Nat) (a0 : ByteArray) : Option (ByteArray) := bulletinref12_Quote.l0 k a0 (⟨#[]⟩ : ByteArray) 0
set_option maxHeartbeats 8000000 in
set_option maxRecDepth 100000 in
theorem bulletinref12_Quote.calls (k : Nat) (a0 : ByteArray) (r : ByteArray) (w : World) (h : bulletinref12_Quote.f k a0 = some r) :
  Calls Tryd.prog 148 #[.string a0] w fun e w' => e = .returned (.string r) ∧ Drawn0 w w' := by
 have H : (bulletinref12_Quote.l0 k a0 (⟨#[]⟩ : ByteArray) 0) = some r := h; clear h; have H' := Aside0.mk H; clear H
 go_enter Tryd.func148, Tryd.ntmps148
 go_wp2
 go_loopg [3, 4] k (fun kq v3 v4 w' => ∃ (x3_1 : ByteArray) (x4_1 : Int), v3 = .string x3_1 ∧ v4 = .int .i64 x4_1 ∧ Aside0 (bulletinref12_Quote.l0 kq a0 x3_1 x4_1 = some r) ∧ Aside0 (kq ≤ k) ∧ Drawn0 w w')
 case atStart => exact ⟨((⟨#[]⟩ : ByteArray)), (0), cl, cl, H', ⟨Nat.le_refl _⟩, d0⟩
 case round =>
  clear H'
  try clear c1
  obtain ⟨x3_1, x4_1, rfl, rfl, HA, HK1, ⟨m1, rfl⟩⟩ := hrel; cases gk with
  | zero => exact absurd HA.out (by simp [bulletinref12_Quote.l0])
  | succ k1 =>
   have H := HA.out; clear HA; simp only [bulletinref12_Quote.l0] at H
   by_cases c2 : x4_1 < (a0.size : Int)
   ·rw [if_pos c2] at H; have c2b0 := decide_eq_true c2; clear c2
    by_cases c3 : 0 ≤ x4_1
    ·rw [if_pos c3] at H; have c3b0 := eq_true c3; have c3b1 := decide_eq_true c3; clear c3
     by_cases c4 : x4_1 ≤ (wrap64 (x4_1 + 1))
     ·rw [if_pos c4] at H; have c4b0 := eq_true c4; have c4b1 := decide_eq_true c4
      by_cases c5 : (wrap64 (x4_1 + 1)) ≤ (a0.size : Int)
      ·rw [if_pos c5] at H; have c5b0 := eq_true c5; have c5b1 := decide_eq_true c5; have HC6 := Aside0.mk H; clear H
       go_upto_region 6 with (fail)
       go_cut [26] (fun v26 wc => ∃ (kq : Nat) (x26_5 : Bool), v26 = .bool x26_5 ∧ Aside0 (bulletinref12_Quote.j1 kq a0 x3_1 x4_1 (a0.extract (x4_1 : Int).toNat ((wrap64 (x4_1 + 1)) : Int).toNat) x26_5 = some r) ∧ Aside0 (kq ≤ k1) ∧ Drawn0 w wc)
       case first =>
        have H := HC6.out; clear HC6
        by_cases c8 : (bt a0 x4_1) = 34
        ·rw [if_pos c8] at H; have c8b0 := beq_iff_eq.mpr c8; have c8b1 := bne_eq_false_iff_eq.mpr c8; clear c8
         (first | rw [c8b0] | (simp only [i64_w, i32_w]; rw [c8b0]) | skip)
         have H' := Aside0.mk H; clear H; have p7 : 0 ≤ (x4_1 : Int) := od; have q7 : x4_1 < (a0.size : Int) := od; have hx7 := bt_at a0 x4_1; replace p7 := eq_true p7; replace q7 := eq_true q7
         go_wp2
         go_meet
         case rel => exact ⟨_, (true), cl, H', ⟨by have := HK1.out; first | omega | exact Nat.le_refl _⟩, d0⟩
        rw [if_neg c8] at H; have c8b0 := beq_eq_false_iff_ne.mpr c8; have c8b1 := bne_iff_ne.mpr c8
        (first | rw [c8b0] | (simp only [i64_w, i32_w]; rw [c8b0]) | skip)
        have H' := Aside0.mk H; clear H; have p7 : 0 ≤ (x4_1 : Int) := od; have q7 : x4_1 < (a0.size : Int) := od; have hx7 := bt_at a0 x4_1; replace p7 := eq_true p7; replace q7 := eq_true q7; have p9 : 0 ≤ (x4_1 : Int) := od; have q9 : x4_1 < (a0.size : Int) := od; have hx9 := bt_at a0 x4_1; replace p9 := eq_true p9; replace q9 := eq_true q9
        go_wp2
        go_meet
        case rel => exact ⟨_, (((bt a0 x4_1) == 92)), cl, H', ⟨by have := HK1.out; first | omega | exact Nat.le_refl _⟩, d0⟩
       case rest =>
        clear HC6
        try clear c1
        try clear c2
        try clear c2b0
        try clear p2
        try clear c3
        try clear c3b0
        try clear c3b1
        try clear c4
        try clear c4b0
        try clear c4b1
        try clear c5
        try clear c5b0
        try clear c5b1
        try clear p6
        try clear p7
        try clear q7
        try clear hx7
        try clear c8
        try clear c8b0
        try clear c8b1
        try clear p9
        try clear q9
        try clear hx9
        try clear p7
        try clear p9
        try clear q7
        try clear q9
        obtain ⟨kq, x26_5, rfl, HA, HJ5, ⟨mc5, rfl⟩⟩ := hcut; cases kq with
        | zero => exact absurd HA.out (by simp [bulletinref12_Quote.j1])
        | succ kj5 =>
         have H := HA.out; clear HA; simp only [bulletinref12_Quote.j1] at H
         by_cases c10 : x26_5 = true
         ·subst c10; rw [if_pos rfl] at H
          by_cases c11 : 1 + (a0.extract (x4_1 : Int).toNat ((wrap64 (x4_1 + 1)) : Int).toNat).size ≤ 9223372036854775807
          ·rw [if_pos c11] at H; have c11b0 := eq_true c11; have c11b1 := decide_eq_true c11
           try have c11b2 : (9223372036854775807 < 1 + (a0.extract (x4_1 : Int).toNat ((wrap64 (x4_1 + 1)) : Int).toNat).size) = False := eq_false (Nat.not_lt.2 c11)
           try (have c11b3 := c11; simp only [ByteArray.size_append, size_lit, ByteArray.size_extract, List.size_toArray, List.length_cons, List.length_nil, Nat.zero_add, Nat.reduceAdd] at c11b3; have c11b4 := eq_false (Nat.not_lt.2 c11b3))
           by_cases c12 : 0 ≤ x4_1
           ·rw [if_pos c12] at H; have c12b0 := decide_eq_true c12; clear c12
            by_cases c13 : x4_1 < (a0.size : Int)
            ·rw [if_pos c13] at H; have c13b0 := decide_eq_true c13; clear c13; replace H := Option.bind_eq_some_iff.mp H; obtain ⟨t308, A150, H⟩ := H; have A15 := Aside0.mk A150; clear A150
             by_cases c16 : t308 = true
             ·subst c16; rw [if_pos rfl] at H
              by_cases c17 : x3_1.size + ((⟨#[92]⟩ : ByteArray) ++ (a0.extract (x4_1 : Int).toNat ((wrap64 (x4_1 + 1)) : Int).toNat)).size ≤ 9223372036854775807
              ·rw [if_pos c17] at H; have c17b0 := eq_true c17; have c17b1 := decide_eq_true c17
               try have c17b2 : (9223372036854775807 < x3_1.size + ((⟨#[92]⟩ : ByteArray) ++ (a0.extract (x4_1 : Int).toNat ((wrap64 (x4_1 + 1)) : Int).toNat)).size) = False := eq_false (Nat.not_lt.2 c17)
               try (have c17b3 := c17; simp only [ByteArray.size_append, size_lit, ByteArray.size_extract, List.size_toArray, List.length_cons, List.length_nil, Nat.zero_add, Nat.reduceAdd] at c17b3; have c17b4 := eq_false (Nat.not_lt.2 c17b3))
               have H' := Aside0.mk H; clear H; have p14 : 0 ≤ (x4_1 : Int) := od; have q14 : x4_1 < (a0.size : Int) := od; have hx14 := bt_at a0 x4_1; replace p14 := eq_true p14; replace q14 := eq_true q14
               go_wp2_with (first | ((with_reducible refine gate_callee (f := 77) rfl ?_); refine goesL_ (some 32) rfl rfl Tryd.func77 (by kernel_rfl) rfl #[.int .u8 (bt a0 x4_1)] rfl am ?_; (with_reducible refine (bulletinref12_Text.calls (bt a0 x4_1) true _ A15.out).mono ?_); rintro e w' ⟨rfl, ⟨nd, rfl⟩⟩; refine ⟨_, rfl, ?_⟩))
               go_roundg kj5
               case measure => have := HK1.out; have := HJ5.out; omega
               case rel => exact ⟨(x3_1 ++ ((⟨#[92]⟩ : ByteArray) ++ (a0.extract (x4_1 : Int).toNat ((wrap64 (x4_1 + 1)) : Int).toNat))), (wrap64 (x4_1 + 1)), cl, cl, H', ⟨by have := HK1.out; have := HJ5.out; omega⟩, d0⟩
              rw [if_neg c17] at H; exact absurd H (by simp)
             replace c16 := Bool.eq_false_iff.mpr c16; subst c16; rw [if_neg nft] at H
             by_cases c18 : x3_1.size + 1 ≤ 9223372036854775807
             ·rw [if_pos c18] at H; have c18b0 := eq_true c18; have c18b1 := decide_eq_true c18
              try have c18b2 : (9223372036854775807 < x3_1.size + 1) = False := eq_false (Nat.not_lt.2 c18)
              have H' := Aside0.mk H; clear H; have p14 : 0 ≤ (x4_1 : Int) := od; have q14 : x4_1 < (a0.size : Int) := od; have hx14 := bt_at a0 x4_1; replace p14 := eq_true p14; replace q14 := eq_true q14
              go_wp2_with (first | ((with_reducible refine gate_callee (f := 77) rfl ?_); refine goesL_ (some 32) rfl rfl Tryd.func77 (by kernel_rfl) rfl #[.int .u8 (bt a0 x4_1)] rfl am ?_; (with_reducible refine (bulletinref12_Text.calls (bt a0 x4_1) false _ A15.out).mono ?_); rintro e w' ⟨rfl, ⟨nd, rfl⟩⟩; refine ⟨_, rfl, ?_⟩))
              go_roundg kj5
              case measure => have := HK1.out; have := HJ5.out; omega
              case rel => exact ⟨(x3_1 ++ (⟨#[32]⟩ : ByteArray)), (wrap64 (x4_1 + 1)), cl, cl, H', ⟨by have := HK1.out; have := HJ5.out; omega⟩, d0⟩
             rw [if_neg c18] at H; exact absurd H (by simp)
            rw [if_neg c13] at H; exact absurd H (by simp)
           rw [if_neg c12] at H; exact absurd H (by simp)
          rw [if_neg c11] at H; exact absurd H (by simp)
         replace c10 := Bool.eq_false_iff.mpr c10; subst c10; rw [if_neg nft] at H
         by_cases c19 : 0 ≤ x4_1
         ·rw [if_pos c19] at H; have c19b0 := decide_eq_true c19; clear c19
          by_cases c20 : x4_1 < (a0.size : Int)
          ·rw [if_pos c20] at H; have c20b0 := decide_eq_true c20; clear c20; replace H := Option.bind_eq_some_iff.mp H; obtain ⟨t309, A220, H⟩ := H; have A22 := Aside0.mk A220; clear A220
           by_cases c23 : t309 = true
           ·subst c23; rw [if_pos rfl] at H
            by_cases c24 : x3_1.size + (a0.extract (x4_1 : Int).toNat ((wrap64 (x4_1 + 1)) : Int).toNat).size ≤ 9223372036854775807
            ·rw [if_pos c24] at H; have c24b0 := eq_true c24; have c24b1 := decide_eq_true c24
             try have c24b2 : (9223372036854775807 < x3_1.size + (a0.extract (x4_1 : Int).toNat ((wrap64 (x4_1 + 1)) : Int).toNat).size) = False := eq_false (Nat.not_lt.2 c24)
             try (have c24b3 := c24; simp only [ByteArray.size_append, size_lit, ByteArray.size_extract, List.size_toArray, List.length_cons, List.length_nil, Nat.zero_add, Nat.reduceAdd] at c24b3; have c24b4 := eq_false (Nat.not_lt.2 c24b3))
             have H' := Aside0.mk H; clear H; have p21 : 0 ≤ (x4_1 : Int) := od; have q21 : x4_1 < (a0.size : Int) := od; have hx21 := bt_at a0 x4_1; replace p21 := eq_true p21; replace q21 := eq_true q21
             go_wp2_with (first | ((with_reducible refine gate_callee (f := 77) rfl ?_); refine goesL_ (some 32) rfl rfl Tryd.func77 (by kernel_rfl) rfl #[.int .u8 (bt a0 x4_1)] rfl am ?_; (with_reducible refine (bulletinref12_Text.calls (bt a0 x4_1) true _ A22.out).mono ?_); rintro e w' ⟨rfl, ⟨nd, rfl⟩⟩; refine ⟨_, rfl, ?_⟩))
             go_roundg kj5
             case measure => have := HK1.out; have := HJ5.out; omega
             case rel => exact ⟨(x3_1 ++ (a0.extract (x4_1 : Int).toNat ((wrap64 (x4_1 + 1)) : Int).toNat)), (wrap64 (x4_1 + 1)), cl, cl, H', ⟨by have := HK1.out; have := HJ5.out; omega⟩, d0⟩
            rw [if_neg c24] at H; exact absurd H (by simp)
           replace c23 := Bool.eq_false_iff.mpr c23; subst c23; rw [if_neg nft] at H
           by_cases c25 : x3_1.size + 1 ≤ 9223372036854775807
           ·rw [if_pos c25] at H; have c25b0 := eq_true c25; have c25b1 := decide_eq_true c25
            try have c25b2 : (9223372036854775807 < x3_1.size + 1) = False := eq_false (Nat.not_lt.2 c25)
            have H' := Aside0.mk H; clear H; have p21 : 0 ≤ (x4_1 : Int) := od; have q21 : x4_1 < (a0.size : Int) := od; have hx21 := bt_at a0 x4_1; replace p21 := eq_true p21; replace q21 := eq_true q21
            go_wp2_with (first | ((with_reducible refine gate_callee (f := 77) rfl ?_); refine goesL_ (some 32) rfl rfl Tryd.func77 (by kernel_rfl) rfl #[.int .u8 (bt a0 x4_1)] rfl am ?_; (with_reducible refine (bulletinref12_Text.calls (bt a0 x4_1) false _ A22.out).mono ?_); rintro e w' ⟨rfl, ⟨nd, rfl⟩⟩; refine ⟨_, rfl, ?_⟩))
            go_roundg kj5
            case measure => have := HK1.out; have := HJ5.out; omega
            case rel => exact ⟨(x3_1 ++ (⟨#[32]⟩ : ByteArray)), (wrap64 (x4_1 + 1)), cl, cl, H', ⟨by have := HK1.out; have := HJ5.out; omega⟩, d0⟩
           rw [if_neg c25] at H; exact absurd H (by simp)
          rw [if_neg c20] at H; exact absurd H (by simp)
         rw [if_neg c19] at H; exact absurd H (by simp)
      rw [if_neg c5] at H; exact absurd H (by simp)
     rw [if_neg c4] at H; exact absurd H (by simp)
    rw [if_neg c3] at H; exact absurd H (by simp)
   rw [if_neg c2] at H; have c2b0 := decide_eq_false c2; clear c2
   by_cases c26 : 1 + x3_1.size ≤ 9223372036854775807
   ·rw [if_pos c26] at H; have c26b0 := eq_true c26; have c26b1 := decide_eq_true c26
    try have c26b2 : (9223372036854775807 < 1 + x3_1.size) = False := eq_false (Nat.not_lt.2 c26)
    by_cases c27 : ((⟨#[34]⟩ : ByteArray) ++ x3_1).size + 1 ≤ 9223372036854775807
    ·rw [if_pos c27] at H; have c27b0 := eq_true c27; have c27b1 := decide_eq_true c27
     try have c27b2 : (9223372036854775807 < ((⟨#[34]⟩ : ByteArray) ++ x3_1).size + 1) = False := eq_false (Nat.not_lt.2 c27)
     try (have c27b3 := c27; simp only [ByteArray.size_append, size_lit, ByteArray.size_extract, List.size_toArray, List.length_cons, List.length_nil, Nat.zero_add, Nat.reduceAdd] at c27b3; have c27b4 := eq_false (Nat.not_lt.2 c27b3))
     obtain rfl := Option.some.inj H
     go_wp2
     go_ret
     exact ⟨cl, d0⟩
    rw [if_neg c27] at H; exact absurd H (by simp)
   rw [if_neg c26] at H; exact absurd H (by simp)

end Go.Proofs.YtihabmcaplnbcaaDoor.Fn
namespace Go.Proofs.YtihabmcaplnbcaaDoor.Fn
open Go.RowKit Go.Proofs.YtihabmcaplnbcaaDoorW.PrintWords Go.Proofs.YtihabmcaplnbcaaDoorW.PrintLast Go.Proofs.YtihabmcaplnbcaaDoorW.PrintMore
attribute [local go_sem] max2_int min2_int max_two min_two max_three min_three max_four min_four
set_option linter.unusedVariables false
set_option linter.unusedSimpArgs false
def bulletinref13_Dotted.l0 : Nat → List ByteArray → Int → Option (Bool)
 | 0, _, _ => none
 | k + 1, x3, x4 => if x4 < (x3.length : Int) then (if 0 ≤ x4 then ((bulletinref12_IsAtom.f k (rdOf ByteArray.empty x3 x4)).bind fun t307 => (if t307 = true then (bulletinref13_Dotted.l0 k x3 (wrap64 (x4 + 1))) else (some false))) else (none)) else (some true)
def bulletinref13_Dotted.f (k : Nat) (a0 : ByteArray) : Option (Bool) := (bulletinref13_Split.f k a0 46).bind fun t303 => (bulletinref13_Dotted.l0 k t303 0)
set_option maxHeartbeats 8000000 in
set_option maxRecDepth 100000 in
theorem bulletinref13_Dotted.calls (k : Nat) (a0 : ByteArray) (r : Bool) (w : World) (h : bulletinref13_Dotted.f k a0 = some r) :
  Calls Tryd.prog 147 #[.string a0] w fun e w' => e = .returned (.bool r) ∧ Below w.heap.size w w' := by
 have HB := Aside0.mk (Below.refl w.heap.size w); have H : ((bulletinref13_Split.f k a0 46).bind fun t303 => (bulletinref13_Dotted.l0 k t303 0)) = some r := h; clear h; replace H := Option.bind_eq_some_iff.mp H; obtain ⟨t303, A20, H⟩ := H; have A2 := Aside0.mk A20; clear A20; have H' := Aside0.mk H; clear H
 go_enter Tryd.func147, Tryd.ntmps147
 go_wp2_with (first | ((with_reducible refine gate_callee (f := 145) rfl ?_); refine goesL_ (some 6) rfl rfl Tryd.func145 (by kernel_rfl) rfl #[.string a0, .int .u8 46] rfl am ?_; (with_reducible refine (bulletinref13_Split.calls k a0 46 t303 _ A2.out).mono ?_); rintro e w3 ⟨v304, rfl, ho0, hb⟩; refine ⟨_, rfl, ?_⟩; have n0_ := Aside0.mk (Kd.R_lower ho0 (below_size bw)); have n1_ := Aside0.mk (below_step bw hb); clear HB; have HO305 := n0_; have HB := n1_; clear n0_ n1_; (try clear hb); (try clear hb2); (try clear hk); (try clear hi); (try clear ho0)))
 go_loopg [4] k (fun kq v4 w' => ∃ (x4_1 : Int), v4 = .int .i64 x4_1 ∧ Aside0 (bulletinref13_Dotted.l0 kq t303 x4_1 = some r) ∧ Aside0 (kq ≤ k) ∧ Aside0 (Kd.R Kd.string 9 w' w.heap.size (fun _ => True) v304 t303) ∧ Aside0 (Below w.heap.size w w'))
 case atStart => exact ⟨(0), cl, H', ⟨Nat.le_refl _⟩, ⟨ra HO305.out⟩, ⟨bw⟩⟩
 case round =>
  clear H'
  try clear c1
  try clear p2
  obtain ⟨x4_1, rfl, HA, HK1, HO_3, HB⟩ := hrel; cases gk with
  | zero => exact absurd HA.out (by simp [bulletinref13_Dotted.l0])
  | succ k1 =>
   have H := HA.out; clear HA; simp only [bulletinref13_Dotted.l0] at H
   by_cases c4 : x4_1 < (t303.length : Int)
   ·rw [if_pos c4] at H; have c4b0 := decide_eq_true c4; clear c4
    by_cases c5 : 0 ≤ x4_1
    ·rw [if_pos c5] at H; have c5b0 := decide_eq_true c5; clear c5; replace H := Option.bind_eq_some_iff.mp H; obtain ⟨t307, A60, H⟩ := H; have A6 := Aside0.mk A60; clear A60
     by_cases c7 : t307 = true
     ·subst c7; rw [if_pos rfl] at H; have H' := Aside0.mk H; clear H; obtain ⟨Ao8, co8, eo8⟩ := Kd.R_slice HO_3.out; subst eo8; have p306 : 0 ≤ (x4_1 : Int) := od; have q306 : x4_1 < (t303.length : Int) := od; obtain ⟨ad306, e306, hx306_0⟩ := Kd.at_string (Kd.R_reads' HO_3.out).2.2 x4_1 p306 q306; cases e306; replace p306 := eq_true p306; replace q306 := eq_true q306
      go_wp2_with (first | ((with_reducible refine gate_callee (f := 166) rfl ?_); refine goesL_ (some 17) rfl rfl Tryd.func166 (by kernel_rfl) rfl #[.string (rdOf ByteArray.empty t303 x4_1)] rfl am ?_; (with_reducible refine (bulletinref12_IsAtom.calls k1 (rdOf ByteArray.empty t303 x4_1) true _ A6.out).mono ?_); rintro e w' ⟨rfl, ⟨nd, rfl⟩⟩; refine ⟨_, rfl, ?_⟩))
      go_roundg k1
      case measure => have := HK1.out; omega
      case rel => exact ⟨(wrap64 (x4_1 + 1)), cl, H', ⟨by have := HK1.out; omega⟩, ⟨ra HO_3.out⟩, ⟨bw⟩⟩
     replace c7 := Bool.eq_false_iff.mpr c7; subst c7; rw [if_neg nft] at H; obtain rfl := Option.some.inj H; obtain ⟨Ao9, co9, eo9⟩ := Kd.R_slice HO_3.out; subst eo9; have p306 : 0 ≤ (x4_1 : Int) := od; have q306 : x4_1 < (t303.length : Int) := od; obtain ⟨ad306, e306, hx306_0⟩ := Kd.at_string (Kd.R_reads' HO_3.out).2.2 x4_1 p306 q306; cases e306; replace p306 := eq_true p306; replace q306 := eq_true q306
     go_wp2_with (first | ((with_reducible refine gate_callee (f := 166) rfl ?_); refine goesL_ (some 17) rfl rfl Tryd.func166 (by kernel_rfl) rfl #[.string (rdOf ByteArray.empty t303 x4_1)] rfl am ?_; (with_reducible refine (bulletinref12_IsAtom.calls k1 (rdOf ByteArray.empty t303 x4_1) false _ A6.out).mono ?_); rintro e w' ⟨rfl, ⟨nd, rfl⟩⟩; refine ⟨_, rfl, ?_⟩))
     go_ret
     exact ⟨ew, bw⟩
    rw [if_neg c5] at H; exact absurd H (by simp)
   rw [if_neg c4] at H; have c4b0 := decide_eq_false c4; clear c4; obtain rfl := Option.some.inj H; obtain ⟨Ao10, co10, eo10⟩ := Kd.R_slice HO_3.out; subst eo10
   go_wp2
   go_ret
   exact ⟨ew, bw⟩

def bulletinref13_Text.f (k : Nat) (a0_0 : ByteArray) (a0_1 : ByteArray) : Option (ByteArray) := (bulletinref13_Dotted.f k a0_0).bind fun t311 => (if t311 = true then (if a0_0.size + 1 ≤ 9223372036854775807 then (if (a0_0 ++ (⟨#[64]⟩ : ByteArray)).size + a0_1.size ≤ 9223372036854775807 then (some ((a0_0 ++ (⟨#[64]⟩ : ByteArray)) ++ a0_1)) else (none)) else (none)) else ((bulletinref12_Quote.f k a0_0).bind fun t312 => (if t312.size + 1 ≤ 9223372036854775807 then (if (t312 ++ (⟨#[64]⟩ : ByteArray)).size + a0_1.size ≤ 9223372036854775807 then (some ((t312 ++ (⟨#[64]⟩ : ByteArray)) ++ a0_1)) else (none)) else (none))))
set_option maxHeartbeats 8000000 in
set_option maxRecDepth 100000 in
theorem bulletinref13_Text.calls (k : Nat) (a0_0 : ByteArray) (a0_1 : ByteArray) (r : ByteArray) (w : World) (h : bulletinref13_Text.f k a0_0 a0_1 = some r) :
  Calls Tryd.prog 119 #[.agg #[.string a0_0, .string a0_1]] w fun e w' => e = .returned (.string r) ∧ Below w.heap.size w w' := by
 have hu38 := Tryd.underlying38; have HB := Aside0.mk (Below.refl w.heap.size w); have H : ((bulletinref13_Dotted.f k a0_0).bind fun t311 => (if t311 = true then (if a0_0.size + 1 ≤ 9223372036854775807 then (if (a0_0 ++ (⟨#[64]⟩ : ByteArray)).size + a0_1.size ≤ 9223372036854775807 then (some ((a0_0 ++ (⟨#[64]⟩ : ByteArray)) ++ a0_1)) else (none)) else (none)) else ((bulletinref12_Quote.f k a0_0).bind fun t312 => (if t312.size + 1 ≤ 9223372036854775807 then (if (t312 ++ (⟨#[64]⟩ : ByteArray)).size + a0_1.size ≤ 9223372036854775807 then (some ((t312 ++ (⟨#[64]⟩ : ByteArray)) ++ a0_1)) else (none)) else (none))))) = some r := h; clear h; replace H := Option.bind_eq_some_iff.mp H; obtain ⟨t311, A20, H⟩ := H; have A2 := Aside0.mk A20; clear A20
 by_cases c3 : t311 = true
 ·subst c3; rw [if_pos rfl] at H
  by_cases c4 : a0_0.size + 1 ≤ 9223372036854775807
  ·rw [if_pos c4] at H; have c4b0 := eq_true c4; have c4b1 := decide_eq_true c4
   try have c4b2 : (9223372036854775807 < a0_0.size + 1) = False := eq_false (Nat.not_lt.2 c4)
   by_cases c5 : (a0_0 ++ (⟨#[64]⟩ : ByteArray)).size + a0_1.size ≤ 9223372036854775807
   ·rw [if_pos c5] at H; have c5b0 := eq_true c5; have c5b1 := decide_eq_true c5
    try have c5b2 : (9223372036854775807 < (a0_0 ++ (⟨#[64]⟩ : ByteArray)).size + a0_1.size) = False := eq_false (Nat.not_lt.2 c5)
    try (have c5b3 := c5; simp only [ByteArray.size_append, size_lit, ByteArray.size_extract, List.size_toArray, List.length_cons, List.length_nil, Nat.zero_add, Nat.reduceAdd] at c5b3; have c5b4 := eq_false (Nat.not_lt.2 c5b3))
    obtain rfl := Option.some.inj H
    go_enter Tryd.func119, Tryd.ntmps119
    go_wp2_with (first | ((with_reducible refine gate_dst (N := 1) rfl ?_); refine box_event ?hg (N := 1) ?hd (cs := #[.string a0_0, .string a0_1]) (t := 38) ?hr ?_; (case hd => rfl); (case hg => rfl); (case hr => first | (go_simp; done) | (go_simp; rfl)); intro gb310 hg w6 hbox hb; have n0_ := Aside0.mk (below_step bw hb); have n1_ := Aside0.mk (hbox); have n2_ := Aside0.mk ((by rw [hg]; exact (below_size bw) : w.heap.size ≤ gb310)); have n3_ := Aside0.mk ((by rw [hg]; exact (below_size bw) : w.heap.size ≤ gb310)); clear HB; have HB := n0_; have BK310 := n1_; have GW310 := n2_; have GE310 := n3_; clear n0_ n1_ n2_ n3_; clear hb hbox hg; have hcz7_0 : w6.cell? ⟨gb310, 0, none⟩ = some (.string a0_0) := (blk_cell BK310.out 0).trans rfl; have hcz7_1 : w6.cell? ⟨gb310, 1, none⟩ = some (.string a0_1) := (blk_cell BK310.out 1).trans rfl; have hfz7_0 := blk_frozen BK310.out 0; have hfz7_1 := blk_frozen BK310.out 1) | (go_at_call 147; (with_reducible refine (bulletinref13_Dotted.calls k a0_0 true _ A2.out).mono ?_); rintro e w8 ⟨rfl, hb⟩; have n0_ := Aside0.mk (blk_below (g := gb310) (o := .cells #[.string a0_0, .string a0_1] 38 (0, 0)) bk hb); have n1_ := Aside0.mk (below_step bwS hb); clear BK310; clear HB; have BK310 := n0_; have HB := n1_; clear n0_ n1_; (try clear hb); (try clear hb2); (try clear hk); (try clear hi); have hcz9_0 : w8.cell? ⟨gb310, 0, none⟩ = some (.string a0_0) := (blk_cell BK310.out 0).trans rfl; have hcz9_1 : w8.cell? ⟨gb310, 1, none⟩ = some (.string a0_1) := (blk_cell BK310.out 1).trans rfl; have hfz9_0 := blk_frozen BK310.out 0; have hfz9_1 := blk_frozen BK310.out 1))
    repeat (go_quiet (first | ((with_reducible refine gate_dst (N := 1) rfl ?_); refine box_event ?hg (N := 1) ?hd (cs := #[.string a0_0, .string a0_1]) (t := 38) ?hr ?_; (case hd => rfl); (case hg => rfl); (case hr => first | (go_simp; done) | (go_simp; rfl)); intro gb310 hg w6 hbox hb; have n0_ := Aside0.mk (below_step bw hb); have n1_ := Aside0.mk (hbox); have n2_ := Aside0.mk ((by rw [hg]; exact (below_size bw) : w.heap.size ≤ gb310)); have n3_ := Aside0.mk ((by rw [hg]; exact (below_size bw) : w.heap.size ≤ gb310)); clear HB; have HB := n0_; have BK310 := n1_; have GW310 := n2_; have GE310 := n3_; clear n0_ n1_ n2_ n3_; clear hb hbox hg; have hcz7_0 : w6.cell? ⟨gb310, 0, none⟩ = some (.string a0_0) := (blk_cell BK310.out 0).trans rfl; have hcz7_1 : w6.cell? ⟨gb310, 1, none⟩ = some (.string a0_1) := (blk_cell BK310.out 1).trans rfl; have hfz7_0 := blk_frozen BK310.out 0; have hfz7_1 := blk_frozen BK310.out 1) | (go_at_call 147; (with_reducible refine (bulletinref13_Dotted.calls k a0_0 true _ A2.out).mono ?_); rintro e w8 ⟨rfl, hb⟩; have n0_ := Aside0.mk (blk_below (g := gb310) (o := .cells #[.string a0_0, .string a0_1] 38 (0, 0)) bk hb); have n1_ := Aside0.mk (below_step bwS hb); clear BK310; clear HB; have BK310 := n0_; have HB := n1_; clear n0_ n1_; (try clear hb); (try clear hb2); (try clear hk); (try clear hi); have hcz9_0 : w8.cell? ⟨gb310, 0, none⟩ = some (.string a0_0) := (blk_cell BK310.out 0).trans rfl; have hcz9_1 : w8.cell? ⟨gb310, 1, none⟩ = some (.string a0_1) := (blk_cell BK310.out 1).trans rfl; have hfz9_0 := blk_frozen BK310.out 0; have hfz9_1 := blk_frozen BK310.out 1)); try go_wp2_with (first | ((with_reducible refine gate_dst (N := 1) rfl ?_); refine box_event ?hg (N := 1) ?hd (cs := #[.string a0_0, .string a0_1]) (t := 38) ?hr ?_; (case hd => rfl); (case hg => rfl); (case hr => first | (go_simp; done) | (go_simp; rfl)); intro gb310 hg w6 hbox hb; have n0_ := Aside0.mk (below_step bw hb); have n1_ := Aside0.mk (hbox); have n2_ := Aside0.mk ((by rw [hg]; exact (below_size bw) : w.heap.size ≤ gb310)); have n3_ := Aside0.mk ((by rw [hg]; exact (below_size bw) : w.heap.size ≤ gb310)); clear HB; have HB := n0_; have BK310 := n1_; have GW310 := n2_; have GE310 := n3_; clear n0_ n1_ n2_ n3_; clear hb hbox hg; have hcz7_0 : w6.cell? ⟨gb310, 0, none⟩ = some (.string a0_0) := (blk_cell BK310.out 0).trans rfl; have hcz7_1 : w6.cell? ⟨gb310, 1, none⟩ = some (.string a0_1) := (blk_cell BK310.out 1).trans rfl; have hfz7_0 := blk_frozen BK310.out 0; have hfz7_1 := blk_frozen BK310.out 1) | (go_at_call 147; (with_reducible refine (bulletinref13_Dotted.calls k a0_0 true _ A2.out).mono ?_); rintro e w8 ⟨rfl, hb⟩; have n0_ := Aside0.mk (blk_below (g := gb310) (o := .cells #[.string a0_0, .string a0_1] 38 (0, 0)) bk hb); have n1_ := Aside0.mk (below_step bwS hb); clear BK310; clear HB; have BK310 := n0_; have HB := n1_; clear n0_ n1_; (try clear hb); (try clear hb2); (try clear hk); (try clear hi); have hcz9_0 : w8.cell? ⟨gb310, 0, none⟩ = some (.string a0_0) := (blk_cell BK310.out 0).trans rfl; have hcz9_1 : w8.cell? ⟨gb310, 1, none⟩ = some (.string a0_1) := (blk_cell BK310.out 1).trans rfl; have hfz9_0 := blk_frozen BK310.out 0; have hfz9_1 := blk_frozen BK310.out 1)))
    go_ret
    exact ⟨ew, bwS⟩
   rw [if_neg c5] at H; exact absurd H (by simp)
  rw [if_neg c4] at H; exact absurd H (by simp)
 replace c3 := Bool.eq_false_iff.mpr c3; subst c3; rw [if_neg nft] at H; replace H := Option.bind_eq_some_iff.mp H; obtain ⟨t312, A100, H⟩ := H; have A10 := Aside0.mk A100; clear A100
 by_cases c11 : t312.size + 1 ≤ 9223372036854775807
 ·rw [if_pos c11] at H; have c11b0 := eq_true c11; have c11b1 := decide_eq_true c11
  try have c11b2 : (9223372036854775807 < t312.size + 1) = False := eq_false (Nat.not_lt.2 c11)
  by_cases c12 : (t312 ++ (⟨#[64]⟩ : ByteArray)).size + a0_1.size ≤ 9223372036854775807
  ·rw [if_pos c12] at H; have c12b0 := eq_true c12; have c12b1 := decide_eq_true c12
   try have c12b2 : (9223372036854775807 < (t312 ++ (⟨#[64]⟩ : ByteArray)).size + a0_1.size) = False := eq_false (Nat.not_lt.2 c12)
   try (have c12b3 := c12; simp only [ByteArray.size_append, size_lit, ByteArray.size_extract, List.size_toArray, List.length_cons, List.length_nil, Nat.zero_add, Nat.reduceAdd] at c12b3; have c12b4 := eq_false (Nat.not_lt.2 c12b3))
   obtain rfl := Option.some.inj H
   go_enter Tryd.func119, Tryd.ntmps119
   go_wp2_with (first | ((with_reducible refine gate_dst (N := 1) rfl ?_); refine box_event ?hg (N := 1) ?hd (cs := #[.string a0_0, .string a0_1]) (t := 38) ?hr ?_; (case hd => rfl); (case hg => rfl); (case hr => first | (go_simp; done) | (go_simp; rfl)); intro gb310 hg w13 hbox hb; have n0_ := Aside0.mk (below_step bw hb); have n1_ := Aside0.mk (hbox); have n2_ := Aside0.mk ((by rw [hg]; exact (below_size bw) : w.heap.size ≤ gb310)); have n3_ := Aside0.mk ((by rw [hg]; exact (below_size bw) : w.heap.size ≤ gb310)); clear HB; have HB := n0_; have BK310 := n1_; have GW310 := n2_; have GE310 := n3_; clear n0_ n1_ n2_ n3_; clear hb hbox hg; have hcz14_0 : w13.cell? ⟨gb310, 0, none⟩ = some (.string a0_0) := (blk_cell BK310.out 0).trans rfl; have hcz14_1 : w13.cell? ⟨gb310, 1, none⟩ = some (.string a0_1) := (blk_cell BK310.out 1).trans rfl; have hfz14_0 := blk_frozen BK310.out 0; have hfz14_1 := blk_frozen BK310.out 1) | (go_at_call 147; (with_reducible refine (bulletinref13_Dotted.calls k a0_0 false _ A2.out).mono ?_); rintro e w15 ⟨rfl, hb⟩; have n0_ := Aside0.mk (blk_below (g := gb310) (o := .cells #[.string a0_0, .string a0_1] 38 (0, 0)) bk hb); have n1_ := Aside0.mk (below_step bwS hb); clear BK310; clear HB; have BK310 := n0_; have HB := n1_; clear n0_ n1_; (try clear hb); (try clear hb2); (try clear hk); (try clear hi); have hcz16_0 : w15.cell? ⟨gb310, 0, none⟩ = some (.string a0_0) := (blk_cell BK310.out 0).trans rfl; have hcz16_1 : w15.cell? ⟨gb310, 1, none⟩ = some (.string a0_1) := (blk_cell BK310.out 1).trans rfl; have hfz16_0 := blk_frozen BK310.out 0; have hfz16_1 := blk_frozen BK310.out 1) | (go_at_call 148; (with_reducible refine (bulletinref12_Quote.calls k a0_0 t312 _ A10.out).mono ?_); rintro e w' ⟨rfl, ⟨nd, rfl⟩⟩; (try first | exact ⟨rfl, _, World.drewN_drewN _ _ _⟩ | exact ⟨rfl, _, Eq.trans (World.drewN_drewN _ _ _) (congrArg (World.drewN _) (Nat.add_assoc _ _ _))⟩)))
   repeat (go_quiet (first | ((with_reducible refine gate_dst (N := 1) rfl ?_); refine box_event ?hg (N := 1) ?hd (cs := #[.string a0_0, .string a0_1]) (t := 38) ?hr ?_; (case hd => rfl); (case hg => rfl); (case hr => first | (go_simp; done) | (go_simp; rfl)); intro gb310 hg w13 hbox hb; have n0_ := Aside0.mk (below_step bw hb); have n1_ := Aside0.mk (hbox); have n2_ := Aside0.mk ((by rw [hg]; exact (below_size bw) : w.heap.size ≤ gb310)); have n3_ := Aside0.mk ((by rw [hg]; exact (below_size bw) : w.heap.size ≤ gb310)); clear HB; have HB := n0_; have BK310 := n1_; have GW310 := n2_; have GE310 := n3_; clear n0_ n1_ n2_ n3_; clear hb hbox hg; have hcz14_0 : w13.cell? ⟨gb310, 0, none⟩ = some (.string a0_0) := (blk_cell BK310.out 0).trans rfl; have hcz14_1 : w13.cell? ⟨gb310, 1, none⟩ = some (.string a0_1) := (blk_cell BK310.out 1).trans rfl; have hfz14_0 := blk_frozen BK310.out 0; have hfz14_1 := blk_frozen BK310.out 1) | (go_at_call 147; (with_reducible refine (bulletinref13_Dotted.calls k a0_0 false _ A2.out).mono ?_); rintro e w15 ⟨rfl, hb⟩; have n0_ := Aside0.mk (blk_below (g := gb310) (o := .cells #[.string a0_0, .string a0_1] 38 (0, 0)) bk hb); have n1_ := Aside0.mk (below_step bwS hb); clear BK310; clear HB; have BK310 := n0_; have HB := n1_; clear n0_ n1_; (try clear hb); (try clear hb2); (try clear hk); (try clear hi); have hcz16_0 : w15.cell? ⟨gb310, 0, none⟩ = some (.string a0_0) := (blk_cell BK310.out 0).trans rfl; have hcz16_1 : w15.cell? ⟨gb310, 1, none⟩ = some (.string a0_1) := (blk_cell BK310.out 1).trans rfl; have hfz16_0 := blk_frozen BK310.out 0; have hfz16_1 := blk_frozen BK310.out 1) | (go_at_call 148; (with_reducible refine (bulletinref12_Quote.calls k a0_0 t312 _ A10.out).mono ?_); rintro e w' ⟨rfl, ⟨nd, rfl⟩⟩; (try first | exact ⟨rfl, _, World.drewN_drewN _ _ _⟩ | exact ⟨rfl, _, Eq.trans (World.drewN_drewN _ _ _) (congrArg (World.drewN _) (Nat.add_assoc _ _ _))⟩))); try go_wp2_with (first | ((with_reducible refine gate_dst (N := 1) rfl ?_); refine box_event ?hg (N := 1) ?hd (cs := #[.string a0_0, .string a0_1]) (t := 38) ?hr ?_; (case hd => rfl); (case hg => rfl); (case hr => first | (go_simp; done) | (go_simp; rfl)); intro gb310 hg w13 hbox hb; have n0_ := Aside0.mk (below_step bw hb); have n1_ := Aside0.mk (hbox); have n2_ := Aside0.mk ((by rw [hg]; exact (below_size bw) : w.heap.size ≤ gb310)); have n3_ := Aside0.mk ((by rw [hg]; exact (below_size bw) : w.heap.size ≤ gb310)); clear HB; have HB := n0_; have BK310 := n1_; have GW310 := n2_; have GE310 := n3_; clear n0_ n1_ n2_ n3_; clear hb hbox hg; have hcz14_0 : w13.cell? ⟨gb310, 0, none⟩ = some (.string a0_0) := (blk_cell BK310.out 0).trans rfl; have hcz14_1 : w13.cell? ⟨gb310, 1, none⟩ = some (.string a0_1) := (blk_cell BK310.out 1).trans rfl; have hfz14_0 := blk_frozen BK310.out 0; have hfz14_1 := blk_frozen BK310.out 1) | (go_at_call 147; (with_reducible refine (bulletinref13_Dotted.calls k a0_0 false _ A2.out).mono ?_); rintro e w15 ⟨rfl, hb⟩; have n0_ := Aside0.mk (blk_below (g := gb310) (o := .cells #[.string a0_0, .string a0_1] 38 (0, 0)) bk hb); have n1_ := Aside0.mk (below_step bwS hb); clear BK310; clear HB; have BK310 := n0_; have HB := n1_; clear n0_ n1_; (try clear hb); (try clear hb2); (try clear hk); (try clear hi); have hcz16_0 : w15.cell? ⟨gb310, 0, none⟩ = some (.string a0_0) := (blk_cell BK310.out 0).trans rfl; have hcz16_1 : w15.cell? ⟨gb310, 1, none⟩ = some (.string a0_1) := (blk_cell BK310.out 1).trans rfl; have hfz16_0 := blk_frozen BK310.out 0; have hfz16_1 := blk_frozen BK310.out 1) | (go_at_call 148; (with_reducible refine (bulletinref12_Quote.calls k a0_0 t312 _ A10.out).mono ?_); rintro e w' ⟨rfl, ⟨nd, rfl⟩⟩; (try first | exact ⟨rfl, _, World.drewN_drewN _ _ _⟩ | exact ⟨rfl, _, Eq.trans (World.drewN_drewN _ _ _) (congrArg (World.drewN _) (Nat.add_assoc _ _ _))⟩))))
   go_ret
   exact ⟨ew, bwS⟩
  rw [if_neg c12] at H; exact absurd H (by simp)
 rw [if_neg c11] at H; exact absurd H (by simp)

end Go.Proofs.YtihabmcaplnbcaaDoor.Fn
namespace Go.Proofs.YtihabmcaplnbcaaDoor.Fn
open Go.RowKit Go.Proofs.YtihabmcaplnbcaaDoorW.PrintWords Go.Proofs.YtihabmcaplnbcaaDoorW.PrintLast Go.Proofs.YtihabmcaplnbcaaDoorW.PrintMore
attribute [local go_sem] max2_int min2_int max_two min_two max_three min_three max_four min_four
set_option linter.unusedVariables false
set_option linter.unusedSimpArgs false

mutual
def bulletinref13_Why.j0 : Nat → Int → Bool → ByteArray → ByteArray → Option (Int)
 | 0, _, _, _, _ => none
 | k + 1, x4, x18, x314000, x314001 => if x18 = true then (some 130) else (bulletinref13_Why.l0 k x4 0 x314000 x314001)
def bulletinref13_Why.l0 : Nat → Int → Int → ByteArray → ByteArray → Option (Int)
 | 0, _, _, _, _ => none
 | k + 1, x4, x5, x314000, x314001 => if x5 < (x314000.size : Int) then (if 0 ≤ x5 then (if (bt x314000 x5) < 32 then (some 130) else (if (bt x314000 x5) > 126 then (some 130) else (bulletinref13_Why.l0 k x4 (wrap64 (x5 + 1)) x314000 x314001))) else (none)) else (if x4 = 0 then (if (x314000.size : Int) > 64 then (some 2) else ((bulletinref13_Text.f k x314000 x314001).bind fun t316 => (if (t316.size : Int) > 254 then (some 2) else (some 0)))) else (some 2))
end
def bulletinref13_Why.f (k : Nat) (a0_0 : ByteArray) (a0_1 : ByteArray) : Option (Int) := (bulletinref13_Domain.f k a0_1).bind fun bt314 => (if bt314.2 = 130 then (bulletinref13_Why.j0 k bt314.2 true a0_0 a0_1) else (bulletinref13_Why.j0 k bt314.2 (a0_0.toList == ([] : List UInt8)) a0_0 a0_1))
set_option maxHeartbeats 8000000 in
set_option maxRecDepth 100000 in
theorem bulletinref13_Why.calls (k : Nat) (a0_0 : ByteArray) (a0_1 : ByteArray) (r : Int) (w : World) (h : bulletinref13_Why.f k a0_0 a0_1 = some r) :
  Calls Tryd.prog 81 #[.agg #[.string a0_0, .string a0_1]] w fun e w' => e = .returned (.int .i64 r) ∧ Below w.heap.size w w' := by
 have hu38 := Tryd.underlying38; have HB := Aside0.mk (Below.refl w.heap.size w); have H : ((bulletinref13_Domain.f k a0_1).bind fun bt314 => (if bt314.2 = 130 then (bulletinref13_Why.j0 k bt314.2 true a0_0 a0_1) else (bulletinref13_Why.j0 k bt314.2 (a0_0.toList == ([] : List UInt8)) a0_0 a0_1))) = some r := h; clear h; replace H := Option.bind_eq_some_iff.mp H; obtain ⟨⟨t314, t315⟩, A20, H⟩ := H; replace H : (if t315 = 130 then (bulletinref13_Why.j0 k t315 true a0_0 a0_1) else (bulletinref13_Why.j0 k t315 (a0_0.toList == ([] : List UInt8)) a0_0 a0_1)) = some r := H; have A2 := Aside0.mk A20; clear A20; have HC3 := Aside0.mk H; clear H
 go_enter Tryd.func81, Tryd.ntmps81
 go_upto_region 2 with (first | ((with_reducible refine gate_dst (N := 1) rfl ?_); (try (refine gate_guard (by rfl) ?_; dsimp only)); refine box_event ?hg (N := 1) ?hd (cs := #[.string a0_0, .string a0_1]) (t := 38) ?hr ?_; (case hd => rfl); (case hg => rfl); (case hr => first | (go_simp; done) | (go_simp; rfl)); intro gb313 hg w4 hbox hb; have n0_ := Aside0.mk (below_step bw hb); have n1_ := Aside0.mk (hbox); have n2_ := Aside0.mk ((by rw [hg]; exact (below_size bw) : w.heap.size ≤ gb313)); have n3_ := Aside0.mk ((by rw [hg]; exact (below_size bw) : w.heap.size ≤ gb313)); clear HB; have HB := n0_; have BK313 := n1_; have GW313 := n2_; have GE313 := n3_; clear n0_ n1_ n2_ n3_; clear hb hbox hg; have hcz5_0 : w4.cell? ⟨gb313, 0, none⟩ = some (.string a0_0) := (blk_cell BK313.out 0).trans rfl; have hcz5_1 : w4.cell? ⟨gb313, 1, none⟩ = some (.string a0_1) := (blk_cell BK313.out 1).trans rfl; have hfz5_0 := blk_frozen BK313.out 0; have hfz5_1 := blk_frozen BK313.out 1) | ((with_reducible refine gate_callee (f := 118) rfl ?_); refine goesL_ (some 9) rfl rfl Tryd.func118 (by kernel_rfl) rfl #[.string a0_1] rfl am ?_; (with_reducible refine (bulletinref13_Domain.calls k a0_1 t314 t315 _ A2.out).mono ?_); rintro e w6 ⟨rfl, hb⟩; refine ⟨_, rfl, ?_⟩; have n0_ := Aside0.mk (blk_below (g := gb313) (o := .cells #[.string a0_0, .string a0_1] 38 (0, 0)) bk hb); have n1_ := Aside0.mk (below_step bwS hb); clear BK313; clear HB; have BK313 := n0_; have HB := n1_; clear n0_ n1_; (try clear hb); (try clear hb2); (try clear hk); (try clear hi)))
 (try simp only [Act.put, List.setIfInBounds_toArray, List.set_cons_zero, List.set_cons_succ])
 go_cut [18] (fun v18 wc => ∃ (kq : Nat) (x18_2 : Bool), v18 = .bool x18_2 ∧ Aside0 (bulletinref13_Why.j0 kq t315 x18_2 a0_0 a0_1 = some r) ∧ Aside0 (kq ≤ k) ∧ Aside0 (wc.heap[gb313]? = some (.cells #[.string a0_0, .string a0_1] 38 (0, 0))) ∧ Aside0 (Below w.heap.size w wc))
 case first =>
  have H := HC3.out; clear HC3
  by_cases c7 : t315 = 130
  ·rw [if_pos c7] at H; have c7b0 := beq_iff_eq.mpr c7; have c7b1 := bne_eq_false_iff_eq.mpr c7; clear c7
   (first | rw [c7b0] | (simp only [i64_w, i32_w]; rw [c7b0]) | skip)
   have H' := Aside0.mk H; clear H
   go_wp2
   go_meet
   case rel => exact ⟨_, (true), cl, H', ⟨by first | omega | exact Nat.le_refl _⟩, ⟨bk⟩, ⟨bwS⟩⟩
  rw [if_neg c7] at H; have c7b0 := beq_eq_false_iff_ne.mpr c7; have c7b1 := bne_iff_ne.mpr c7
  (first | rw [c7b0] | (simp only [i64_w, i32_w]; rw [c7b0]) | skip)
  have H' := Aside0.mk H; clear H; obtain ⟨hcz8_0, hcz8_1, hfz8_0, hfz8_1⟩ := bk2 BK313.out
  go_wp2
  go_meet
  case rel => exact ⟨_, ((a0_0.toList == ([] : List UInt8))), cl, H', ⟨by first | omega | exact Nat.le_refl _⟩, ⟨bk⟩, ⟨bwS⟩⟩
 case rest =>
  clear HC3
  try clear c1
  try clear p2
  try clear c7
  try clear c7b0
  try clear c7b1
  try clear c8
  try clear hcz5_0
  try clear hcz5_1
  try clear hcz8_0
  try clear hcz8_1
  try clear hfz5_0
  try clear hfz5_1
  try clear hfz8_0
  try clear hfz8_1
  obtain ⟨kq, x18_2, rfl, HA, HJ2, BK313, HB⟩ := hcut; cases kq with
  | zero => exact absurd HA.out (by simp [bulletinref13_Why.j0])
  | succ kj2 =>
   have H := HA.out; clear HA; simp only [bulletinref13_Why.j0] at H
   by_cases c9 : x18_2 = true
   ·subst c9; rw [if_pos rfl] at H; obtain rfl := Option.some.inj H
    go_wp2
    go_ret
    exact ⟨ew, bwS⟩
   replace c9 := Bool.eq_false_iff.mpr c9; subst c9; rw [if_neg nft] at H; have H' := Aside0.mk H; clear H
   go_wp2
   go_loopg [5] kj2 (fun kq v5 w' => ∃ (x5_2 : Int), v5 = .int .i64 x5_2 ∧ Aside0 (bulletinref13_Why.l0 kq t315 x5_2 a0_0 a0_1 = some r) ∧ Aside0 (kq ≤ kj2) ∧ Aside0 (w'.heap[gb313]? = some (.cells #[.string a0_0, .string a0_1] 38 (0, 0))) ∧ Aside0 (Below w.heap.size w w'))
   case atStart => exact ⟨(0), cl, H', ⟨Nat.le_refl _⟩, ⟨bk⟩, ⟨bwS⟩⟩
   case round =>
    clear H'
    try clear c1
    try clear p2
    try clear c7
    try clear c7b0
    try clear c7b1
    try clear c8
    try clear c9
    try clear hcz5_0
    try clear hcz5_1
    try clear hcz8_0
    try clear hcz8_1
    try clear hfz5_0
    try clear hfz5_1
    try clear hfz8_0
    try clear hfz8_1
    try clear p2
    obtain ⟨x5_2, rfl, HA, HK2, BK313, HB⟩ := hrel; cases gk with
    | zero => exact absurd HA.out (by simp [bulletinref13_Why.l0])
    | succ k2 =>
     have H := HA.out; clear HA; simp only [bulletinref13_Why.l0] at H
     by_cases c10 : x5_2 < (a0_0.size : Int)
     ·rw [if_pos c10] at H; have c10b0 := decide_eq_true c10; clear c10
      by_cases c11 : 0 ≤ x5_2
      ·rw [if_pos c11] at H; have c11b0 := decide_eq_true c11; clear c11
       by_cases c13 : (bt a0_0 x5_2) < 32
       ·rw [if_pos c13] at H; have c13b0 := decide_eq_true c13; clear c13; obtain rfl := Option.some.inj H; obtain ⟨hcz14_0, hcz14_1, hfz14_0, hfz14_1⟩ := bk2 BK313.out; have p12 : 0 ≤ (x5_2 : Int) := od; have q12 : x5_2 < (a0_0.size : Int) := od; have hx12 := bt_at a0_0 x5_2; replace p12 := eq_true p12; replace q12 := eq_true q12
        go_wp2
        go_ret
        exact ⟨ew, bwS⟩
       rw [if_neg c13] at H; have c13b0 := decide_eq_false c13; clear c13
       by_cases c16 : (bt a0_0 x5_2) > 126
       ·rw [if_pos c16] at H; have c16b0 : decide (126 < (bt a0_0 x5_2)) = true := decide_eq_true c16; clear c16; obtain rfl := Option.some.inj H; obtain ⟨hcz17_0, hcz17_1, hfz17_0, hfz17_1⟩ := bk2 BK313.out; have p12 : 0 ≤ (x5_2 : Int) := od; have q12 : x5_2 < (a0_0.size : Int) := od; have hx12 := bt_at a0_0 x5_2; replace p12 := eq_true p12; replace q12 := eq_true q12; have p15 : 0 ≤ (x5_2 : Int) := od; have q15 : x5_2 < (a0_0.size : Int) := od; have hx15 := bt_at a0_0 x5_2; replace p15 := eq_true p15; replace q15 := eq_true q15
        go_wp2
        go_ret
        exact ⟨ew, bwS⟩
       rw [if_neg c16] at H; have c16b0 : decide (126 < (bt a0_0 x5_2)) = false := decide_eq_false c16; clear c16; have H' := Aside0.mk H; clear H; obtain ⟨hcz18_0, hcz18_1, hfz18_0, hfz18_1⟩ := bk2 BK313.out; have p12 : 0 ≤ (x5_2 : Int) := od; have q12 : x5_2 < (a0_0.size : Int) := od; have hx12 := bt_at a0_0 x5_2; replace p12 := eq_true p12; replace q12 := eq_true q12; have p15 : 0 ≤ (x5_2 : Int) := od; have q15 : x5_2 < (a0_0.size : Int) := od; have hx15 := bt_at a0_0 x5_2; replace p15 := eq_true p15; replace q15 := eq_true q15
       go_wp2
       go_roundg k2
       case measure => have := HJ2.out; have := HK2.out; omega
       case rel => exact ⟨(wrap64 (x5_2 + 1)), cl, H', ⟨by have := HJ2.out; have := HK2.out; omega⟩, ⟨bk⟩, ⟨bwS⟩⟩
      rw [if_neg c11] at H; exact absurd H (by simp)
     rw [if_neg c10] at H; have c10b0 := decide_eq_false c10; clear c10
     by_cases c19 : t315 = 0
     ·rw [if_pos c19] at H; have c19b0 := beq_iff_eq.mpr c19; have c19b1 := bne_eq_false_iff_eq.mpr c19; clear c19
      by_cases c20 : (a0_0.size : Int) > 64
      ·rw [if_pos c20] at H; have c20b0 : decide (64 < (a0_0.size : Int)) = true := decide_eq_true c20; have c20b1 : decide (64 < a0_0.size) = true := decide_eq_true (by omega); clear c20; obtain rfl := Option.some.inj H; obtain ⟨hcz21_0, hcz21_1, hfz21_0, hfz21_1⟩ := bk2 BK313.out
       go_wp2
       go_ret
       exact ⟨ew, bwS⟩
      rw [if_neg c20] at H; have c20b0 : decide (64 < (a0_0.size : Int)) = false := decide_eq_false c20; have c20b1 : decide (64 < a0_0.size) = false := decide_eq_false (by omega); clear c20; replace H := Option.bind_eq_some_iff.mp H; obtain ⟨t316, A220, H⟩ := H; have A22 := Aside0.mk A220; clear A220
      by_cases c23 : (t316.size : Int) > 254
      ·rw [if_pos c23] at H; have c23b0 : decide (254 < (t316.size : Int)) = true := decide_eq_true c23; have c23b1 : decide (254 < t316.size) = true := decide_eq_true (by omega); clear c23; obtain rfl := Option.some.inj H; obtain ⟨hcz24_0, hcz24_1, hfz24_0, hfz24_1⟩ := bk2 BK313.out
       go_wp2_with (first | (go_at_call 119; (with_reducible refine (bulletinref13_Text.calls k2 a0_0 a0_1 t316 _ A22.out).mono ?_); rintro e w25 ⟨rfl, hb⟩; have n0_ := Aside0.mk (blk_below (g := gb313) (o := .cells #[.string a0_0, .string a0_1] 38 (0, 0)) bk hb); have n1_ := Aside0.mk (below_step bwS hb); clear BK313; clear HB; have BK313 := n0_; have HB := n1_; clear n0_ n1_; (try clear hb); (try clear hb2); (try clear hk); (try clear hi)))
       go_ret
       exact ⟨ew, bwS⟩
      rw [if_neg c23] at H; have c23b0 : decide (254 < (t316.size : Int)) = false := decide_eq_false c23; have c23b1 : decide (254 < t316.size) = false := decide_eq_false (by omega); clear c23; obtain rfl := Option.some.inj H; obtain ⟨hcz26_0, hcz26_1, hfz26_0, hfz26_1⟩ := bk2 BK313.out
      go_wp2_with (first | (go_at_call 119; (with_reducible refine (bulletinref13_Text.calls k2 a0_0 a0_1 t316 _ A22.out).mono ?_); rintro e w27 ⟨rfl, hb⟩; have n0_ := Aside0.mk (blk_below (g := gb313) (o := .cells #[.string a0_0, .string a0_1] 38 (0, 0)) bk hb); have n1_ := Aside0.mk (below_step bwS hb); clear BK313; clear HB; have BK313 := n0_; have HB := n1_; clear n0_ n1_; (try clear hb); (try clear hb2); (try clear hk); (try clear hi)))
      go_ret
      exact ⟨ew, bwS⟩
     rw [if_neg c19] at H; have c19b0 := beq_eq_false_iff_ne.mpr c19; have c19b1 := bne_iff_ne.mpr c19; obtain rfl := Option.some.inj H; obtain ⟨hcz28_0, hcz28_1, hfz28_0, hfz28_1⟩ := bk2 BK313.out
     go_wp2
     go_ret
     exact ⟨ew, bwS⟩

end Go.Proofs.YtihabmcaplnbcaaDoor.Fn
set_option linter.unusedVariables false
namespace Go.Proofs.YtihabmcaplnbcaaDoor.Pl
open Go.RowKit Go.Proofs.YtihabmcaplnbcaaDoorW.PrintWords Go.Proofs.YtihabmcaplnbcaaDoor.Fn

/-! Layer 13, the document's, over lists of bytes: it answers as the program does. -/
theorem rdS_drop {l : List Bytes} {i : Nat} {x : Bytes} {r : List Bytes} (h : l.drop i = x :: r) : rdOf ByteArray.empty (l.map str) (i : Int) = str x := by
 have h1 : l[i]? = some x := by
  have := congrArg List.head? h
  rw [List.head?_drop] at this
  exact this
 unfold rdOf
 rw [List.getD_eq_getElem?_getD, List.getElem?_map]
 simp [h1]
theorem dropS_lt {α : Type} {l : List α} {i : Nat} {x : α} {r : List α} (h : l.drop i = x :: r) : i < l.length ∧ l.drop (i + 1) = r := by
 have h1 : i < l.length := by
  rcases Nat.lt_or_ge i l.length with h' | h'
  ·exact h'
  rw [List.drop_of_length_le h'] at h; cases h
 refine ⟨h1, ?_⟩
 rw [← List.drop_drop, h]
 rfl
def headJoin (w : Bytes) : List Bytes → List Bytes
 | [] => [w]
 | p :: ps => (w ++ p) :: ps
theorem headJoin_nil (l : List Bytes) (h : l ≠ []) : headJoin [] l = l := by
 cases l with
 | nil => exact absurd rfl h
 | cons p ps => rfl
theorem headJoin_step (c x : UInt8) (w rest : Bytes) (hx : ¬ x = c) : headJoin w (splitL c (x :: rest)) = headJoin (w ++ [x]) (splitL c rest) := by
 have h := splitL_ne c rest
 rw [splitL, if_neg hx]
 cases hs : splitL c rest with
 | nil => exact absurd hs h
 | cons p ps => simp [headJoin]
theorem refSplit_l0 (s : ByteArray) (hs : s.size ≤ 1000000000) (c : UInt8) : ∀ (rest : Bytes) (i k : Nat) (acc : List Bytes) (w : Bytes), (bs s).drop i = rest → i ≤ (bs s).length → rest.length + 1 ≤ k → acc.length ≤ i → w.length ≤ i →
  bulletinref13_Split.l0 k s (c.toNat : Int) (acc.map str) (str w) (i : Int) = some ((acc ++ headJoin w (splitL c rest)).map str)
 | [], i, k, acc, w, hd, hi, hk, ha, hw => by
  obtain ⟨k, rfl⟩ : ∃ j, k = j + 1 := ⟨k - 1, by omega⟩
  have := drop_nil hd
  rw [bs_length] at this hi
  rw [bulletinref13_Split.l0, if_neg (by omega), if_pos (by rw [List.length_map]; omega)]
  simp [splitL, headJoin]
 | x :: rest, i, k, acc, w, hd, hi, hk, ha, hw => by
  obtain ⟨k, rfl⟩ : ∃ j, k = j + 1 := ⟨k - 1, by omega⟩
  obtain ⟨h1, h2, h3, h4⟩ := drop_cons hd
  have h5 : i < s.size := by rw [bs_length] at h1; exact h1
  simp only [List.length_cons] at hk
  have e : ((x.toNat : Int) = (c.toNat : Int)) = (x = c) := propext ⟨fun q => UInt8.toNat_inj.1 (by omega), fun q => by rw [q]⟩
  rw [bulletinref13_Split.l0, if_pos (by omega), if_pos (by omega), bt_drop hd]
  by_cases hx : x = c
  ·rw [if_pos (by rw [e]; exact hx), if_pos (by rw [List.length_map]; omega), wrap_succ i (by omega)]
   rw [show acc.map str ++ [str w] = (acc ++ [w]).map str by simp, show (⟨#[]⟩ : ByteArray) = str [] from rfl]
   rw [refSplit_l0 s hs c rest (i + 1) k (acc ++ [w]) [] h3 (by omega) (by omega) (by simp; omega) (by simp)]
   rw [headJoin_nil _ (splitL_ne c rest), splitL, if_pos hx]
   simp [headJoin]
  rw [if_neg (by rw [e]; exact hx), wrap_succ i (by omega), if_pos (by omega), if_pos (by omega)]
  simp only [Int.toNat_natCast]
  rw [extract_one hd, str_app, if_pos (by rw [str_size, str_size]; simp; omega)]
  rw [refSplit_l0 s hs c rest (i + 1) k acc (w ++ [x]) h3 (by omega) (by omega) (by omega) (by simp; omega)]
  rw [headJoin_step c x w rest hx]
theorem refSplit_is (s : ByteArray) (hs : s.size ≤ 1000000000) (k : Nat) (hk : s.size + 1 ≤ k) : bulletinref13_Split.f k s 46 = some ((splitL 46 (bs s)).map str) := by
 have := refSplit_l0 s hs 46 (bs s) 0 k [] [] (by simp) (by omega) (by rw [bs_length]; omega) (by simp) (by simp)
 rw [headJoin_nil _ (splitL_ne _ _)] at this
 unfold bulletinref13_Split.f
 exact this
theorem splitL_length (c : UInt8) : ∀ l : Bytes, (splitL c l).length ≤ l.length + 1
 | [] => by simp [splitL]
 | x :: l => by
  have ih := splitL_length c l
  have hne := splitL_ne c l
  rw [splitL]
  split
  ·simp; omega
  cases h : splitL c l with
  | nil => exact absurd h hne
  | cons w r => rw [h] at ih; simp at ih ⊢; omega
theorem splitL_mem_length (c : UInt8) : ∀ (l w : Bytes), w ∈ splitL c l → w.length ≤ l.length
 | [], w, h => by simp [splitL] at h; simp [h]
 | x :: l, w, h => by
  have hne := splitL_ne c l
  rw [splitL] at h
  split at h
  ·rcases List.mem_cons.1 h with q | q
   ·rw [q]; simp
   have := splitL_mem_length c l w q; simp; omega
  cases hs : splitL c l with
  | nil => exact absurd hs hne
  | cons p r =>
   rw [hs] at h
   rcases List.mem_cons.1 h with q | q
   ·have := splitL_mem_length c l p (by rw [hs]; simp); rw [q]; simp; omega
   have := splitL_mem_length c l w (by rw [hs]; simp [q]); simp; omega

/-! IsAtom -/
set_option maxRecDepth 100000 in
theorem refatomic_at (c : UInt8) : bulletinref12_atomic.f 20 (c.toNat : Int) = some (atomic c) := forall_byte (p := fun c => bulletinref12_atomic.f 20 (c.toNat : Int) = some (atomic c)) (by decide +kernel) c
theorem refatomic_is (c : UInt8) (k : Nat) (hk : 20 ≤ k) : bulletinref12_atomic.f k (c.toNat : Int) = some (atomic c) := mono_up (fun k => bulletinref12_atomic.mono _ k) (refatomic_at c) k hk
theorem refIsAtom_l0 (s : ByteArray) (hs : s.size ≤ 1000000000) : ∀ (rest : Bytes) (i k : Nat), (bs s).drop i = rest → i ≤ (bs s).length → rest.length + 1 + 20 ≤ k →
  bulletinref12_IsAtom.l0 k s (i : Int) = some (rest.all atomic)
 | [], i, k, hd, hi, hk => by
  obtain ⟨k, rfl⟩ : ∃ j, k = j + 1 := ⟨k - 1, by omega⟩
  have := drop_nil hd
  rw [bs_length] at this hi
  rw [bulletinref12_IsAtom.l0, if_neg (by omega)]
  rfl
 | c :: rest, i, k, hd, hi, hk => by
  obtain ⟨k, rfl⟩ : ∃ j, k = j + 1 := ⟨k - 1, by omega⟩
  obtain ⟨h1, h2, h3, h4⟩ := drop_cons hd
  have h5 : i < s.size := by rw [bs_length] at h1; exact h1
  simp only [List.length_cons] at hk
  rw [bulletinref12_IsAtom.l0, if_pos (by omega), if_pos (by omega), bt_drop hd, refatomic_is c k (by omega), Option.bind_some]
  cases ha : atomic c with
  | true => rw [if_pos rfl, wrap_succ i (by omega), refIsAtom_l0 s hs rest (i + 1) k h3 (by omega) (by omega)]; simp [ha]
  | false => rw [if_neg (by simp)]; simp [ha]
theorem refIsAtom_is (s : ByteArray) (hs : s.size ≤ 1000000000) (k : Nat) (hk : s.size + 1 + 20 ≤ k) : bulletinref12_IsAtom.f k s = some (atomL (bs s)) := by
 unfold bulletinref12_IsAtom.f atomL
 rw [toList_bs]
 cases h : bs s with
 | nil => rw [if_pos rfl]; rfl
 | cons c r =>
  rw [if_neg (by simp)]
  have := refIsAtom_l0 s hs (bs s) 0 k (by simp) (by omega) (by rw [bs_length]; omega)
  rw [h] at this
  rw [show (0 : Int) = ((0 : Nat) : Int) from rfl, this]
  simp
theorem refDotted_l0 (l : List Bytes) (hl : l.length ≤ 1000000000) (m : Nat) (hm : m ≤ 1000000000) (hw : ∀ w ∈ l, w.length ≤ m) : ∀ (rest : List Bytes) (i k : Nat), l.drop i = rest → i ≤ l.length → rest.length + m + 30 ≤ k →
  bulletinref13_Dotted.l0 k (l.map str) (i : Int) = some (rest.all atomL)
 | [], i, k, hd, hi, hk => by
  obtain ⟨k, rfl⟩ : ∃ j, k = j + 1 := ⟨k - 1, by omega⟩
  have : l.length ≤ i := by have := congrArg List.length hd; simp at this; omega
  rw [bulletinref13_Dotted.l0, if_neg (by rw [List.length_map]; omega)]
  rfl
 | x :: rest, i, k, hd, hi, hk => by
  obtain ⟨k, rfl⟩ : ∃ j, k = j + 1 := ⟨k - 1, by omega⟩
  obtain ⟨h1, h2⟩ := dropS_lt hd
  have hx := hw x (List.mem_of_mem_drop (i := i) (by rw [hd]; simp))
  simp only [List.length_cons] at hk
  rw [bulletinref13_Dotted.l0, if_pos (by rw [List.length_map]; omega), if_pos (by omega), rdS_drop hd, refIsAtom_is (str x) (by rw [str_size]; omega) k (by rw [str_size]; omega), bs_str, Option.bind_some]
  cases ha : atomL x with
  | true => rw [if_pos rfl, wrap_succ i (by omega), refDotted_l0 l hl m hm hw rest (i + 1) k h2 (by omega) (by omega)]; simp [ha]
  | false => rw [if_neg (by simp)]; simp [ha]
theorem refDotted_is (s : ByteArray) (hs : s.size ≤ 1000000) (k : Nat) (hk : 2 * s.size + 40 ≤ k) : bulletinref13_Dotted.f k s = some (dottedL (bs s)) := by
 unfold bulletinref13_Dotted.f dottedL
 have hl := splitL_length 46 (bs s)
 rw [bs_length] at hl
 rw [refSplit_is s (by omega) k (by omega), Option.bind_some]
 exact refDotted_l0 _ (by omega) s.size (by omega) (fun w hw => by have := splitL_mem_length 46 _ _ hw; rw [bs_length] at this; exact this) _ 0 k (by simp) (by omega) (by omega)

/-! Quote -/
set_option maxRecDepth 100000 in
theorem reftext_is (c : UInt8) : bulletinref12_Text.f (c.toNat : Int) = some (text c) := forall_byte (p := fun c => bulletinref12_Text.f (c.toNat : Int) = some (text c)) (by decide +kernel) c
theorem text_34 : text 34 = true := by decide +kernel
theorem text_92 : text 92 = true := by decide +kernel
theorem refQuote_l0 (s : ByteArray) (hs : s.size ≤ 1000000000) : ∀ (rest : Bytes) (i k : Nat) (acc : Bytes), (bs s).drop i = rest → i ≤ (bs s).length → 2 * rest.length + 1 ≤ k → acc.length ≤ 2 * i →
  bulletinref12_Quote.l0 k s (str acc) (i : Int) = some (str (34 :: (acc ++ rest.flatMap qB ++ [34])))
 | [], i, k, acc, hd, hi, hk, ha => by
  obtain ⟨k, rfl⟩ : ∃ j, k = j + 1 := ⟨k - 1, by omega⟩
  have := drop_nil hd
  rw [bs_length] at this hi
  rw [bulletinref12_Quote.l0, if_neg (by omega), if_pos (by rw [str_size]; omega), show (⟨#[34]⟩ : ByteArray) = str [34] from rfl, str_app, if_pos (by rw [str_size]; simp; omega), str_app]
  simp
 | c :: rest, i, k, acc, hd, hi, hk, ha => by
  obtain ⟨k, rfl⟩ : ∃ j, k = j + 1 + 1 := ⟨k - 2, by simp at hk; omega⟩
  obtain ⟨h1, h2, h3, h4⟩ := drop_cons hd
  have h5 : i < s.size := by rw [bs_length] at h1; exact h1
  simp only [List.length_cons] at hk
  have e34 : ((c.toNat : Int) = 34) = (c = 34) := byte_eq c 34 (by decide)
  have e92 : ((c.toNat : Int) = 92) = (c = 92) := byte_eq c 92 (by decide)
  have goon : ∀ acc' : Bytes, acc'.length ≤ acc.length + 2 → bulletinref12_Quote.l0 k s (str acc') (wrap64 ((i : Int) + 1)) = some (str (34 :: (acc' ++ rest.flatMap qB ++ [34]))) := by
   intro acc' hl
   rw [wrap_succ i (by omega)]
   exact refQuote_l0 s hs rest (i + 1) k acc' h3 (by omega) (by omega) (by omega)
  have esc : c = 34 ∨ c = 92 → bulletinref12_Quote.j1 (k + 1) s (str acc) (i : Int) (str [c]) true = some (str (34 :: (acc ++ (c :: rest).flatMap qB ++ [34]))) := by
   intro hc
   have ht : text c = true := by rcases hc with h | h <;> rw [h]; exact text_34; exact text_92
   rw [bulletinref12_Quote.j1, if_pos rfl, if_pos (by rw [str_size]; simp), if_pos (by omega), if_pos (by omega), bt_drop hd, reftext_is, Option.bind_some, ht, if_pos rfl, show (⟨#[92]⟩ : ByteArray) = str [92] from rfl, str_app, str_app, if_pos (by rw [str_size, str_size]; simp; omega), goon _ (by simp)]
   simp [qB, hc]
  rw [bulletinref12_Quote.l0, if_pos (by omega), if_pos (by omega), wrap_succ i (by omega), if_pos (by omega), if_pos (by omega), bt_drop hd]
  simp only [Int.toNat_natCast]
  rw [extract_one hd]
  by_cases c34 : c = 34
  ·rw [if_pos (by rw [e34]; exact c34), esc (.inl c34)]
  rw [if_neg (by rw [e34]; exact c34)]
  by_cases c92 : c = 92
  ·rw [show ((c.toNat : Int) == 92) = true by rw [beq_iff_eq, e92]; exact c92, esc (.inr c92)]
  rw [show ((c.toNat : Int) == 92) = false by rw [beq_eq_false_iff_ne, ne_eq, e92]; exact c92, bulletinref12_Quote.j1, if_neg (by decide), if_pos (by omega), if_pos (by omega), bt_drop hd, reftext_is, Option.bind_some]
  have hn : ¬ (c = 34 ∨ c = 92) := fun h => h.elim c34 c92
  cases ht : text c with
  | true =>
   rw [if_pos rfl, str_app, if_pos (by rw [str_size, str_size]; simp; omega), goon _ (by simp)]
   simp [qB, hn, ht]
  | false =>
   rw [if_neg (by decide), show (⟨#[32]⟩ : ByteArray) = str [32] from rfl, str_app, if_pos (by rw [str_size]; omega), goon _ (by simp)]
   simp [qB, hn, ht]
theorem refQuote_is (s : ByteArray) (hs : s.size ≤ 1000000000) (k : Nat) (hk : 2 * s.size + 1 ≤ k) : bulletinref12_Quote.f k s = some (str (quote (bs s))) := by
 have := refQuote_l0 s hs (bs s) 0 k [] (by simp) (by omega) (by rw [bs_length]; omega) (by simp)
 unfold bulletinref12_Quote.f quote
 exact this
theorem refText_is (a b : ByteArray) (ha : a.size ≤ 1000000) (hb : b.size ≤ 1000000) (k : Nat) (hk : 2 * a.size + 40 ≤ k) : bulletinref13_Text.f k a b = some (str (textL (bs a) (bs b))) := by
 unfold bulletinref13_Text.f textL localL
 rw [refDotted_is a ha k hk, Option.bind_some]
 cases hd : dottedL (bs a) with
 | true =>
  rw [if_pos rfl, if_pos (by omega), if_pos (by simp only [ByteArray.size_append]; have : (⟨#[64]⟩ : ByteArray).size = 1 := rfl; omega), if_pos rfl]
  congr 1
  apply bs_inj
  rw [bs_app, bs_app, bs_str]
  simp [bs]
 | false =>
  have hq := quote_length (bs a)
  rw [bs_length] at hq
  rw [if_neg (by decide), refQuote_is a (by omega) k (by omega), Option.bind_some]
  rw [if_pos (by rw [str_size]; omega), if_pos (by simp only [ByteArray.size_append, str_size]; have : (⟨#[64]⟩ : ByteArray).size = 1 := rfl; omega), if_neg (by decide)]
  congr 1
  apply bs_inj
  rw [bs_app, bs_app, bs_str, bs_str]
  simp [bs]
end Go.Proofs.YtihabmcaplnbcaaDoor.Pl
namespace Go.Proofs.YtihabmcaplnbcaaDoor.Fn
open Go.RowKit Go.Proofs.YtihabmcaplnbcaaDoorW.PrintWords Go.Proofs.YtihabmcaplnbcaaDoorW.PrintLast Go.Proofs.YtihabmcaplnbcaaDoorW.PrintMore
attribute [local go_sem] max2_int min2_int max_two min_two max_three min_three max_four min_four
set_option linter.unusedVariables false
set_option linter.unusedSimpArgs false

mutual
def bulletinref12_Scan.l0 : Nat → ByteArray → List (S113) → ByteArray → Int → Int → Bool → Int → Option ((List (S113)) × Int)
 | 0, _, _, _, _, _, _, _ => none
 | k + 1, x0, x4, x5, x6, x7, x8, x9 => if x9 < (x0.size : Int) then (if 0 ≤ x9 then (if x8 = true then ((bulletinref12_Text.f (bt x0 x9)).bind fun t244 => (if t244 = true then (if x6 = 2 then (if x9 ≤ (wrap64 (x9 + 1)) then (if (wrap64 (x9 + 1)) ≤ (x0.size : Int) then (if x5.size + (x0.extract (x9 : Int).toNat ((wrap64 (x9 + 1)) : Int).toNat).size ≤ 9223372036854775807 then (bulletinref12_Scan.l0 k x0 x4 (x5 ++ (x0.extract (x9 : Int).toNat ((wrap64 (x9 + 1)) : Int).toNat)) x6 x7 false (wrap64 (x9 + 1))) else (none)) else (none)) else (none)) else (bulletinref12_Scan.l0 k x0 x4 x5 x6 x7 false (wrap64 (x9 + 1)))) else (some (([] : List (S113)), 3)))) else (if x6 = 1 then ((bulletinref12_atomic.f k (bt x0 x9)).bind fun t245 => (bulletinref12_Scan.j1 k x0 x4 x5 x6 x7 x8 x9 (bt x0 x9) (!t245))) else (bulletinref12_Scan.j1 k x0 x4 x5 x6 x7 x8 x9 (bt x0 x9) false))) else (none)) else (if x6 ≥ 2 then (some (([] : List (S113)), 9)) else (if x6 = 1 then (if x4.length < 5864062014805 then (some ((x4 ++ [(⟨1, x5⟩ : S113)]), 0)) else (none)) else (some (x4, 0))))
def bulletinref12_Scan.j1 : Nat → ByteArray → List (S113) → ByteArray → Int → Int → Bool → Int → Int → Bool → Option ((List (S113)) × Int)
 | 0, _, _, _, _, _, _, _, _, _ => none
 | k + 1, x0, x4, x5, x6, x7, x8, x9, x10, x39 => if x39 = true then (if x4.length < 5864062014805 then (bulletinref12_Scan.j2 k x0 (x4 ++ [(⟨1, x5⟩ : S113)]) (⟨#[]⟩ : ByteArray) 0 x7 x8 x9 x10) else (none)) else (bulletinref12_Scan.j2 k x0 x4 x5 x6 x7 x8 x9 x10)
def bulletinref12_Scan.j2 : Nat → ByteArray → List (S113) → ByteArray → Int → Int → Bool → Int → Int → Option ((List (S113)) × Int)
 | 0, _, _, _, _, _, _, _, _ => none
 | k + 1, x0, x4, x5, x6, x7, x8, x9, x10 => if x10 = 13 then (if (wrap64 (x9 + 2)) < (x0.size : Int) then (if 0 ≤ (wrap64 (x9 + 1)) then (if (wrap64 (x9 + 1)) < (x0.size : Int) then (if (bt x0 (wrap64 (x9 + 1))) = 10 then (if 0 ≤ (wrap64 (x9 + 2)) then (if (bt x0 (wrap64 (x9 + 2))) = 32 then (bulletinref12_Scan.j3 k x0 x4 x5 x6 x7 x8 x9 x10 true) else (bulletinref12_Scan.j3 k x0 x4 x5 x6 x7 x8 x9 x10 ((bt x0 (wrap64 (x9 + 2))) == 9))) else (none)) else (bulletinref12_Scan.j3 k x0 x4 x5 x6 x7 x8 x9 x10 false)) else (none)) else (none)) else (bulletinref12_Scan.j3 k x0 x4 x5 x6 x7 x8 x9 x10 false)) else (bulletinref12_Scan.j3 k x0 x4 x5 x6 x7 x8 x9 x10 false)
def bulletinref12_Scan.j3 : Nat → ByteArray → List (S113) → ByteArray → Int → Int → Bool → Int → Int → Bool → Option ((List (S113)) × Int)
 | 0, _, _, _, _, _, _, _, _, _ => none
 | k + 1, x0, x4, x5, x6, x7, x8, x9, x10, x74 => if x74 = true then (bulletinref12_Scan.l0 k x0 x4 x5 x6 x7 x8 (wrap64 ((wrap64 (x9 + 1)) + 1))) else (if x6 = 2 then (bulletinref12_Scan.j4 k x0 x4 x5 x6 x7 x8 x9 x10 true) else (bulletinref12_Scan.j4 k x0 x4 x5 x6 x7 x8 x9 x10 (x6 == 3)))
def bulletinref12_Scan.j4 : Nat → ByteArray → List (S113) → ByteArray → Int → Int → Bool → Int → Int → Bool → Option ((List (S113)) × Int)
 | 0, _, _, _, _, _, _, _, _, _ => none
 | k + 1, x0, x4, x5, x6, x7, x8, x9, x10, x82 => if x82 = true then (if x10 = 92 then (bulletinref12_Scan.l0 k x0 x4 x5 x6 x7 true (wrap64 (x9 + 1))) else ((bulletinref12_Text.f x10).bind fun t249 => (if t249 = true then (bulletinref12_Scan.j5 k x0 x4 x5 x6 x7 x8 x9 x10) else (some (([] : List (S113)), 3))))) else (bulletinref12_Scan.j5 k x0 x4 x5 x6 x7 x8 x9 x10)
def bulletinref12_Scan.j5 : Nat → ByteArray → List (S113) → ByteArray → Int → Int → Bool → Int → Int → Option ((List (S113)) × Int)
 | 0, _, _, _, _, _, _, _, _ => none
 | k + 1, x0, x4, x5, x6, x7, x8, x9, x10 => if x6 = 2 then (if x10 = 34 then (if x4.length < 5864062014805 then (bulletinref12_Scan.l0 k x0 (x4 ++ [(⟨2, x5⟩ : S113)]) (⟨#[]⟩ : ByteArray) 0 x7 x8 (wrap64 (x9 + 1))) else (none)) else (if 0 ≤ x9 then (if x9 ≤ (wrap64 (x9 + 1)) then (if (wrap64 (x9 + 1)) ≤ (x0.size : Int) then (if x5.size + (x0.extract (x9 : Int).toNat ((wrap64 (x9 + 1)) : Int).toNat).size ≤ 9223372036854775807 then (bulletinref12_Scan.l0 k x0 x4 (x5 ++ (x0.extract (x9 : Int).toNat ((wrap64 (x9 + 1)) : Int).toNat)) x6 x7 x8 (wrap64 (x9 + 1))) else (none)) else (none)) else (none)) else (none))) else (if x6 = 3 then (if x10 = 40 then (bulletinref12_Scan.j6 k x0 x4 x5 x6 (wrap64 (x7 + 1)) x8 x9 x10) else (bulletinref12_Scan.j6 k x0 x4 x5 x6 x7 x8 x9 x10)) else ((bulletinref12_atomic.f k x10).bind fun t253 => (if t253 = true then (if 0 ≤ x9 then (if x9 ≤ (wrap64 (x9 + 1)) then (if (wrap64 (x9 + 1)) ≤ (x0.size : Int) then (if x5.size + (x0.extract (x9 : Int).toNat ((wrap64 (x9 + 1)) : Int).toNat).size ≤ 9223372036854775807 then (bulletinref12_Scan.l0 k x0 x4 (x5 ++ (x0.extract (x9 : Int).toNat ((wrap64 (x9 + 1)) : Int).toNat)) 1 x7 x8 (wrap64 (x9 + 1))) else (none)) else (none)) else (none)) else (none)) else (if x10 = 34 then (bulletinref12_Scan.l0 k x0 x4 x5 2 x7 x8 (wrap64 (x9 + 1))) else (if x10 = 40 then (bulletinref12_Scan.l0 k x0 x4 x5 3 1 x8 (wrap64 (x9 + 1))) else ((bulletinref12_among.f k x10 (⟨#[60, 62, 58, 59, 64, 44, 46]⟩ : ByteArray)).bind fun t254 => (if t254 = true then (if 0 ≤ x9 then (if x9 ≤ (wrap64 (x9 + 1)) then (if (wrap64 (x9 + 1)) ≤ (x0.size : Int) then (if x4.length < 5864062014805 then (bulletinref12_Scan.l0 k x0 (x4 ++ [(⟨3, x0.extract (x9 : Int).toNat ((wrap64 (x9 + 1)) : Int).toNat⟩ : S113)]) x5 x6 x7 x8 (wrap64 (x9 + 1))) else (none)) else (none)) else (none)) else (none)) else (if x10 = 32 then (bulletinref12_Scan.l0 k x0 x4 x5 x6 x7 x8 (wrap64 (x9 + 1))) else (if x10 = 9 then (bulletinref12_Scan.l0 k x0 x4 x5 x6 x7 x8 (wrap64 (x9 + 1))) else (some (([] : List (S113)), 3)))))))))))
def bulletinref12_Scan.j6 : Nat → ByteArray → List (S113) → ByteArray → Int → Int → Bool → Int → Int → Option ((List (S113)) × Int)
 | 0, _, _, _, _, _, _, _, _ => none
 | k + 1, x0, x4, x5, x6, x7, x8, x9, x10 => if x10 = 41 then (bulletinref12_Scan.j7 k x0 x4 x5 x6 (wrap64 (x7 - 1)) x8 x9) else (bulletinref12_Scan.j7 k x0 x4 x5 x6 x7 x8 x9)
def bulletinref12_Scan.j7 : Nat → ByteArray → List (S113) → ByteArray → Int → Int → Bool → Int → Option ((List (S113)) × Int)
 | 0, _, _, _, _, _, _, _ => none
 | k + 1, x0, x4, x5, x6, x7, x8, x9 => if x7 > 16 then (some (([] : List (S113)), 1)) else (if x7 = 0 then (bulletinref12_Scan.l0 k x0 x4 x5 0 x7 x8 (wrap64 (x9 + 1))) else (bulletinref12_Scan.l0 k x0 x4 x5 x6 x7 x8 (wrap64 (x9 + 1))))
end
def bulletinref12_Scan.f (k : Nat) (a0 : ByteArray) : Option ((List (S113)) × Int) := bulletinref12_Scan.l0 k a0 ([] : List (S113)) (⟨#[]⟩ : ByteArray) 0 0 false 0
set_option maxHeartbeats 8000000 in
set_option maxRecDepth 100000 in
theorem bulletinref12_Scan.calls (k : Nat) (a0 : ByteArray) (r1 : List (S113)) (r2 : Int) (w : World) (h : bulletinref12_Scan.f k a0 = some (r1, r2)) :
  Calls Tryd.prog 36 #[.string a0] w fun e w' => ∃ v0_ : Value, e = .returned (.tuple #[v0_, .int .i64 r2]) ∧ Kd.R k113 113 w' w.heap.size (fun _ => True) v0_ r1 ∧ Below w.heap.size w w' := by
 have hu113 := Tryd.underlying113; have HB := Aside0.mk (Below.refl w.heap.size w); have H : (bulletinref12_Scan.l0 k a0 ([] : List (S113)) (⟨#[]⟩ : ByteArray) 0 0 false 0) = some (r1, r2) := h; clear h; have H' := Aside0.mk H; clear H
 go_enter Tryd.func36, Tryd.ntmps36
 go_wp2
 go_loopg [4, 5, 6, 7, 8, 9] k (fun kq v4 v5 v6 v7 v8 v9 w' => ∃ (x4_1 : List (S113)) (x5_1 : ByteArray) (x6_1 : Int) (x7_1 : Int) (x8_1 : Bool) (x9_1 : Int), v5 = .string x5_1 ∧ v6 = .int .i64 x6_1 ∧ v7 = .int .i64 x7_1 ∧ v8 = .bool x8_1 ∧ v9 = .int .i64 x9_1 ∧ Aside0 (bulletinref12_Scan.l0 kq a0 x4_1 x5_1 x6_1 x7_1 x8_1 x9_1 = some (r1, r2)) ∧ Aside0 (kq ≤ k) ∧ Aside0 (Kd.R k113 113 w' w.heap.size (fun _ => True) v4 x4_1) ∧ Aside0 (Below w.heap.size w w'))
 case atStart => exact ⟨(([] : List (S113))), ((⟨#[]⟩ : ByteArray)), (0), (0), (false), (0), cl, cl, cl, cl, cl, H', ⟨Nat.le_refl _⟩, ⟨by first | exact Kd.R_nil _ _ _ _ _ | exact Kd.N_nil _ _ _ _ _ | exact Kd.V_nil _ _ _ _ _ | exact Kd.Q_nil _ _ _ _ _ | exact Kd.S_nil _ _ _ _ _⟩, ⟨bw⟩⟩
 case round =>
  clear H'; obtain ⟨x4_1, x5_1, x6_1, x7_1, x8_1, x9_1, rfl, rfl, rfl, rfl, rfl, HA, HK1, HO_4, HB⟩ := hrel; cases gk with
  | zero => exact absurd HA.out (by simp [bulletinref12_Scan.l0])
  | succ k1 =>
   have H := HA.out; clear HA; simp only [bulletinref12_Scan.l0] at H
   by_cases c2 : x9_1 < (a0.size : Int)
   ·rw [if_pos c2] at H; have c2b0 := decide_eq_true c2; clear c2
    by_cases c3 : 0 ≤ x9_1
    ·rw [if_pos c3] at H; have c3b0 := decide_eq_true c3; clear c3
     by_cases c5 : x8_1 = true
     ·subst c5; rw [if_pos rfl] at H; replace H := Option.bind_eq_some_iff.mp H; obtain ⟨t244, A60, H⟩ := H; have A6 := Aside0.mk A60; clear A60
      by_cases c7 : t244 = true
      ·subst c7; rw [if_pos rfl] at H
       by_cases c8 : x6_1 = 2
       ·rw [if_pos c8] at H; have c8b0 := beq_iff_eq.mpr c8; have c8b1 := bne_eq_false_iff_eq.mpr c8; clear c8; have c9b0 := eq_true (od : 0 ≤ x9_1)
        by_cases c10 : x9_1 ≤ (wrap64 (x9_1 + 1))
        ·rw [if_pos c10] at H; have c10b0 := eq_true c10; have c10b1 := decide_eq_true c10
         by_cases c11 : (wrap64 (x9_1 + 1)) ≤ (a0.size : Int)
         ·rw [if_pos c11] at H; have c11b0 := eq_true c11; have c11b1 := decide_eq_true c11
          by_cases c12 : x5_1.size + (a0.extract (x9_1 : Int).toNat ((wrap64 (x9_1 + 1)) : Int).toNat).size ≤ 9223372036854775807
          ·rw [if_pos c12] at H; have c12b0 := eq_true c12; have c12b1 := decide_eq_true c12
           try have c12b2 : (9223372036854775807 < x5_1.size + (a0.extract (x9_1 : Int).toNat ((wrap64 (x9_1 + 1)) : Int).toNat).size) = False := eq_false (Nat.not_lt.2 c12)
           try (have c12b3 := c12; simp only [ByteArray.size_append, size_lit, ByteArray.size_extract, List.size_toArray, List.length_cons, List.length_nil, Nat.zero_add, Nat.reduceAdd] at c12b3; have c12b4 := eq_false (Nat.not_lt.2 c12b3))
           have H' := Aside0.mk H; clear H; have p4 : 0 ≤ (x9_1 : Int) := od; have q4 : x9_1 < (a0.size : Int) := od; have hx4 := bt_at a0 x9_1; replace p4 := eq_true p4; replace q4 := eq_true q4
           as_aux_lemma =>
            go_wp2_with (first | ((with_reducible refine gate_callee (f := 77) rfl ?_); refine goesL_ (some 22) rfl rfl Tryd.func77 (by kernel_rfl) rfl #[.int .u8 (bt a0 x9_1)] rfl am ?_; (with_reducible refine (bulletinref12_Text.calls (bt a0 x9_1) true _ A6.out).mono ?_); rintro e w' ⟨rfl, ⟨nd, rfl⟩⟩; refine ⟨_, rfl, ?_⟩))
            go_roundg k1
            case measure => have := HK1.out; omega
            case rel => exact ⟨(x4_1), (x5_1 ++ (a0.extract (x9_1 : Int).toNat ((wrap64 (x9_1 + 1)) : Int).toNat)), (x6_1), (x7_1), (false), (wrap64 (x9_1 + 1)), cl, cl, cl, cl, cl, H', ⟨by have := HK1.out; omega⟩, ⟨ra HO_4.out⟩, ⟨bw⟩⟩
          rw [if_neg c12] at H; exact absurd H (by simp)
         rw [if_neg c11] at H; exact absurd H (by simp)
        rw [if_neg c10] at H; exact absurd H (by simp)
       rw [if_neg c8] at H; have c8b0 := beq_eq_false_iff_ne.mpr c8; have c8b1 := bne_iff_ne.mpr c8; have H' := Aside0.mk H; clear H; have p4 : 0 ≤ (x9_1 : Int) := od; have q4 : x9_1 < (a0.size : Int) := od; have hx4 := bt_at a0 x9_1; replace p4 := eq_true p4; replace q4 := eq_true q4
       as_aux_lemma =>
        go_wp2_with (first | ((with_reducible refine gate_callee (f := 77) rfl ?_); refine goesL_ (some 22) rfl rfl Tryd.func77 (by kernel_rfl) rfl #[.int .u8 (bt a0 x9_1)] rfl am ?_; (with_reducible refine (bulletinref12_Text.calls (bt a0 x9_1) true _ A6.out).mono ?_); rintro e w' ⟨rfl, ⟨nd, rfl⟩⟩; refine ⟨_, rfl, ?_⟩))
        go_roundg k1
        case measure => have := HK1.out; omega
        case rel => exact ⟨(x4_1), (x5_1), (x6_1), (x7_1), (false), (wrap64 (x9_1 + 1)), cl, cl, cl, cl, cl, H', ⟨by have := HK1.out; omega⟩, ⟨ra HO_4.out⟩, ⟨bw⟩⟩
      replace c7 := Bool.eq_false_iff.mpr c7; subst c7; rw [if_neg nft] at H; simp only [Option.some.injEq, Prod.mk.injEq] at H; obtain ⟨rfl, rfl⟩ := H; have p4 : 0 ≤ (x9_1 : Int) := od; have q4 : x9_1 < (a0.size : Int) := od; have hx4 := bt_at a0 x9_1; replace p4 := eq_true p4; replace q4 := eq_true q4
      as_aux_lemma =>
       go_wp2_with (first | ((with_reducible refine gate_callee (f := 77) rfl ?_); refine goesL_ (some 22) rfl rfl Tryd.func77 (by kernel_rfl) rfl #[.int .u8 (bt a0 x9_1)] rfl am ?_; (with_reducible refine (bulletinref12_Text.calls (bt a0 x9_1) false _ A6.out).mono ?_); rintro e w' ⟨rfl, ⟨nd, rfl⟩⟩; refine ⟨_, rfl, ?_⟩))
       go_ret2
       exact ⟨_, ew, by first | exact Kd.R_nil _ _ _ _ _ | exact Kd.N_nil _ _ _ _ _ | exact Kd.V_nil _ _ _ _ _ | exact Kd.Q_nil _ _ _ _ _ | exact Kd.S_nil _ _ _ _ _, bw⟩
     replace c5 := Bool.eq_false_iff.mpr c5; subst c5; rw [if_neg nft] at H; have HC13 := Aside0.mk H; clear H; have p4 : 0 ≤ (x9_1 : Int) := od; have q4 : x9_1 < (a0.size : Int) := od; have hx4 := bt_at a0 x9_1; replace p4 := eq_true p4; replace q4 := eq_true q4
     go_upto_region 16 with (fail)
     go_cut [39] (fun v39 wc => ∃ (kq : Nat) (x39_12 : Bool), v39 = .bool x39_12 ∧ Aside0 (bulletinref12_Scan.j1 kq a0 x4_1 x5_1 x6_1 x7_1 false x9_1 (bt a0 x9_1) x39_12 = some (r1, r2)) ∧ Aside0 (kq ≤ k1) ∧ Aside0 (Kd.R k113 113 wc w.heap.size (fun _ => True) u4 x4_1) ∧ Aside0 (Below w.heap.size w wc))
     case first =>
      have H := HC13.out; clear HC13
      by_cases c14 : x6_1 = 1
      ·rw [if_pos c14] at H; have c14b0 := beq_iff_eq.mpr c14; have c14b1 := bne_eq_false_iff_eq.mpr c14; clear c14
       (first | rw [c14b0] | (simp only [i64_w, i32_w]; rw [c14b0]) | skip)
       replace H := Option.bind_eq_some_iff.mp H; obtain ⟨t245, A150, H⟩ := H; have A15 := Aside0.mk A150; clear A150; have H' := Aside0.mk H; clear H
       as_aux_lemma =>
        go_wp2_with (first | (go_at_call 78; (with_reducible refine (bulletinref12_atomic.calls k1 (bt a0 x9_1) t245 _ A15.out).mono ?_); rintro e w' ⟨rfl, ⟨nd, rfl⟩⟩))
        go_meet
        case rel => exact ⟨_, (!t245), cl, H', ⟨by have := HK1.out; first | omega | exact Nat.le_refl _⟩, ⟨ra HO_4.out⟩, ⟨bw⟩⟩
      rw [if_neg c14] at H; have c14b0 := beq_eq_false_iff_ne.mpr c14; have c14b1 := bne_iff_ne.mpr c14
      (first | rw [c14b0] | (simp only [i64_w, i32_w]; rw [c14b0]) | skip)
      have H' := Aside0.mk H; clear H
      as_aux_lemma =>
       go_wp2
       go_meet
       case rel => exact ⟨_, (false), cl, H', ⟨by have := HK1.out; first | omega | exact Nat.le_refl _⟩, ⟨ra HO_4.out⟩, ⟨bw⟩⟩
     case rest =>
      clear HC13 c2b0 c3b0 p4 q4 hx4; obtain ⟨kq, x39_12, rfl, HA, HJ12, HO_4, HB⟩ := hcut; cases kq with
      | zero => exact absurd HA.out (by simp [bulletinref12_Scan.j1])
      | succ kj12 =>
       have H := HA.out; clear HA; simp only [bulletinref12_Scan.j1] at H; have HC16 := Aside0.mk H; clear H
       go_upto_if 39 with (fail)
       go_cut [4, 5, 6] (fun v4 v5 v6 wc => ∃ (kq : Nat) (x4_15 : List (S113)) (x5_15 : ByteArray) (x6_15 : Int), v5 = .string x5_15 ∧ v6 = .int .i64 x6_15 ∧ Aside0 (bulletinref12_Scan.j2 kq a0 x4_15 x5_15 x6_15 x7_1 false x9_1 (bt a0 x9_1) = some (r1, r2)) ∧ Aside0 (kq ≤ kj12) ∧ Aside0 (Kd.R k113 113 wc w.heap.size (fun _ => True) v4 x4_15) ∧ Aside0 (Below w.heap.size w wc))
       case first =>
        have H := HC16.out; clear HC16
        by_cases c17 : x39_12 = true
        ·subst c17; rw [if_pos rfl] at H
         by_cases c18 : x4_1.length < 5864062014805
         ·rw [if_pos c18] at H; have LMc18 := Aside0.mk c18; clear c18; obtain ⟨y246, hy246⟩ : ∃ y_ : List (S113), y_ = (x4_1 ++ [(⟨1, x5_1⟩ : S113)]) := ⟨_, rfl⟩
          replace H : (bulletinref12_Scan.j2 kj12 a0 y246 (⟨#[]⟩ : ByteArray) 0 x7_1 false x9_1 (bt a0 x9_1)) = some (r1, r2) := by first | (rw [hy246]; with_reducible exact H) | (have H2_ := (Option.bind_some _ _).symm.trans H; rw [hy246]; with_reducible exact H2_) | (have H2_ := (Option.bind_some _ _).symm.trans H; with_reducible exact H2_) | with_reducible exact H | (rw [hy246]; exact H) | exact H
          have Ny246 := Aside0.mk hy246; clear hy246; have H' := Aside0.mk H; clear H
          as_aux_lemma =>
           go_wp2_with (first | ((with_reducible refine gate_builtin (b := .append) (xs := #[.tmp 40, .tmp 43]) rfl ?_); (try (refine gate_guard (by rfl) ?_; dsimp only)); at_builtin; refine Kd.R_append k113 (w0 := w) w.heap.size rfl (.tmp 40) (.tmp 43) 67 113 (.agg #[(.int .i64 0), (.string ⟨#[]⟩)]) 24 rfl Tryd.underlying67 info113 rfl (by decide) (by omega) u4 x4_1 (⟨1, x5_1⟩ : S113) [.int .i64 1, .string x5_1] (fun _ => True) (fun _ => False) rfl rfl ?aP (fun _ hk => hk.elim) ?aF ?aO ?aB ?aS ?aL ?_; (case aP => exact k113_mkM _ _ _ (⟨1, x5_1⟩ : S113)); (case aB => exact bw); (case aF => exact (fun _ _ => trivial)); (case aO => exact (ra HO_4.out)); (case aS => exact (below_size bw)); (case aL => have := LMc18.out; omega); intro v247 w19 ho hb hg hat; rw [← Ny246.out] at ho; have n0_ := Aside0.mk (hb); have n1_ := Aside0.mk (ho); clear HB; clear HO_4; have HB := n0_; have HO248 := n1_; clear n0_ n1_; clear ho hb hg hat))
           go_meet
           case rel => exact ⟨_, (y246), ((⟨#[]⟩ : ByteArray)), (0), cl, cl, H', ⟨by have := HK1.out; have := HJ12.out; first | omega | exact Nat.le_refl _⟩, ⟨ra HO248.out⟩, ⟨bw⟩⟩
         rw [if_neg c18] at H; exact absurd H (by simp)
        replace c17 := Bool.eq_false_iff.mpr c17; subst c17; rw [if_neg nft] at H; have H' := Aside0.mk H; clear H
        as_aux_lemma =>
         go_wp2
         go_meet
         case rel => exact ⟨_, (x4_1), (x5_1), (x6_1), cl, cl, H', ⟨by have := HK1.out; have := HJ12.out; first | omega | exact Nat.le_refl _⟩, ⟨ra HO_4.out⟩, ⟨bw⟩⟩
       case rest =>
        clear HC16; obtain ⟨kq, x4_15, x5_15, x6_15, rfl, rfl, HA, HJ15, HO_4, HB⟩ := hcut; cases kq with
        | zero => exact absurd HA.out (by simp [bulletinref12_Scan.j2])
        | succ kj15 =>
         have H := HA.out; clear HA; simp only [bulletinref12_Scan.j2] at H; have HC20 := Aside0.mk H; clear H
         go_upto_region 20 with (fail)
         go_cut [74] (fun v74 wc => ∃ (kq : Nat) (x74_19 : Bool), v74 = .bool x74_19 ∧ Aside0 (bulletinref12_Scan.j3 kq a0 x4_15 x5_15 x6_15 x7_1 false x9_1 (bt a0 x9_1) x74_19 = some (r1, r2)) ∧ Aside0 (kq ≤ kj15) ∧ Aside0 (Kd.R k113 113 wc w.heap.size (fun _ => True) u4 x4_15) ∧ Aside0 (Below w.heap.size w wc))
         case first =>
          have H := HC20.out; clear HC20
          by_cases c21 : (bt a0 x9_1) = 13
          ·rw [if_pos c21] at H; have c21b0 := beq_iff_eq.mpr c21; have c21b1 := bne_eq_false_iff_eq.mpr c21; clear c21
           (first | rw [c21b0] | (simp only [i64_w, i32_w]; rw [c21b0]) | skip)
           by_cases c22 : (wrap64 (x9_1 + 2)) < (a0.size : Int)
           ·rw [if_pos c22] at H; have c22b0 := decide_eq_true c22; clear c22; obtain ⟨ji23, hji23⟩ : ∃ j_ : Int, (wrap64 (x9_1 + 1)) = j_ := ⟨_, rfl⟩
            replace H : (if 0 ≤ (ji23) then (if (ji23) < (a0.size : Int) then (if (bt a0 (ji23)) = 10 then (if 0 ≤ (wrap64 (x9_1 + 2)) then (if (bt a0 (wrap64 (x9_1 + 2))) = 32 then (bulletinref12_Scan.j3 kj15 a0 x4_15 x5_15 x6_15 x7_1 false x9_1 (bt a0 x9_1) true) else (bulletinref12_Scan.j3 kj15 a0 x4_15 x5_15 x6_15 x7_1 false x9_1 (bt a0 x9_1) ((bt a0 (wrap64 (x9_1 + 2))) == 9))) else (none)) else (bulletinref12_Scan.j3 kj15 a0 x4_15 x5_15 x6_15 x7_1 false x9_1 (bt a0 x9_1) false)) else (none)) else (none)) = some (r1, r2) := by first | (rw [hji23] at H; exact H) | (simp only [hji23] at H ⊢; exact H)
            have hji23w : (IntKind.i64.wrap (x9_1 + 1)) = ji23 := (i64_w _).trans hji23
            by_cases c24 : 0 ≤ (ji23)
            ·rw [if_pos c24] at H; have c24b0 := decide_eq_true c24; clear c24
             by_cases c25 : (ji23) < (a0.size : Int)
             ·rw [if_pos c25] at H; have c25b0 := decide_eq_true c25; clear c25
              by_cases c27 : (bt a0 (ji23)) = 10
              ·rw [if_pos c27] at H; have c27b0 := beq_iff_eq.mpr c27; have c27b1 := bne_eq_false_iff_eq.mpr c27; clear c27; obtain ⟨ji28, hji28⟩ : ∃ j_ : Int, (wrap64 (x9_1 + 2)) = j_ := ⟨_, rfl⟩
               replace H : (if 0 ≤ (ji28) then (if (bt a0 (ji28)) = 32 then (bulletinref12_Scan.j3 kj15 a0 x4_15 x5_15 x6_15 x7_1 false x9_1 (bt a0 x9_1) true) else (bulletinref12_Scan.j3 kj15 a0 x4_15 x5_15 x6_15 x7_1 false x9_1 (bt a0 x9_1) ((bt a0 (ji28)) == 9))) else (none)) = some (r1, r2) := by first | (rw [hji28] at H; exact H) | (simp only [hji28] at H ⊢; exact H)
               (try rw [hji28] at c22b0)
               have hji28w : (IntKind.i64.wrap (x9_1 + 2)) = ji28 := (i64_w _).trans hji28
               by_cases c29 : 0 ≤ (ji28)
               ·rw [if_pos c29] at H; have c29b0 := decide_eq_true c29; clear c29
                by_cases c31 : (bt a0 (ji28)) = 32
                ·rw [if_pos c31] at H; have c31b0 := beq_iff_eq.mpr c31; have c31b1 := bne_eq_false_iff_eq.mpr c31; clear c31; have H' := Aside0.mk H; clear H; have p26 : 0 ≤ ((ji23) : Int) := od; have q26 : (ji23) < (a0.size : Int) := od; have hx26 := bt_at a0 (ji23); replace p26 := eq_true p26; replace q26 := eq_true q26; have p30 : 0 ≤ ((ji28) : Int) := od; have q30 : (ji28) < (a0.size : Int) := od; have hx30 := bt_at a0 (ji28); replace p30 := eq_true p30; replace q30 := eq_true q30
                 as_aux_lemma =>
                  go_wp2
                  go_meet
                  case rel => exact ⟨_, (true), cl, H', ⟨by have := HK1.out; have := HJ12.out; have := HJ15.out; first | omega | exact Nat.le_refl _⟩, ⟨ra HO_4.out⟩, ⟨bw⟩⟩
                rw [if_neg c31] at H; have c31b0 := beq_eq_false_iff_ne.mpr c31; have c31b1 := bne_iff_ne.mpr c31; have H' := Aside0.mk H; clear H; have p26 : 0 ≤ ((ji23) : Int) := od; have q26 : (ji23) < (a0.size : Int) := od; have hx26 := bt_at a0 (ji23); replace p26 := eq_true p26; replace q26 := eq_true q26; have p30 : 0 ≤ ((ji28) : Int) := od; have q30 : (ji28) < (a0.size : Int) := od; have hx30 := bt_at a0 (ji28); replace p30 := eq_true p30; replace q30 := eq_true q30; have p32 : 0 ≤ ((ji28) : Int) := od; have q32 : (ji28) < (a0.size : Int) := od; have hx32 := bt_at a0 (ji28); replace p32 := eq_true p32; replace q32 := eq_true q32
                as_aux_lemma =>
                 go_wp2
                 go_meet
                 case rel => exact ⟨_, (((bt a0 (ji28)) == 9)), (by first | rfl | (simp; done) | (simp only [← hji28] <;> (first | rfl | simp)) | (simp [*]; done) | (simp [nil_ne]; done) | (simp [u8_w, i64w_]; done) | (simp [size_lit]; done) | (simp; unfold wrap64; omega)), H', ⟨by have := HK1.out; have := HJ12.out; have := HJ15.out; first | omega | exact Nat.le_refl _⟩, ⟨ra HO_4.out⟩, ⟨bw⟩⟩
               rw [if_neg c29] at H; exact absurd H (by simp)
              rw [if_neg c27] at H; have c27b0 := beq_eq_false_iff_ne.mpr c27; have c27b1 := bne_iff_ne.mpr c27; have H' := Aside0.mk H; clear H; have p26 : 0 ≤ ((ji23) : Int) := od; have q26 : (ji23) < (a0.size : Int) := od; have hx26 := bt_at a0 (ji23); replace p26 := eq_true p26; replace q26 := eq_true q26
              as_aux_lemma =>
               go_wp2
               go_meet
               case rel => exact ⟨_, (false), cl, H', ⟨by have := HK1.out; have := HJ12.out; have := HJ15.out; first | omega | exact Nat.le_refl _⟩, ⟨ra HO_4.out⟩, ⟨bw⟩⟩
             rw [if_neg c25] at H; exact absurd H (by simp)
            rw [if_neg c24] at H; exact absurd H (by simp)
           rw [if_neg c22] at H; have c22b0 := decide_eq_false c22; clear c22; have H' := Aside0.mk H; clear H
           as_aux_lemma =>
            go_wp2
            go_meet
            case rel => exact ⟨_, (false), cl, H', ⟨by have := HK1.out; have := HJ12.out; have := HJ15.out; first | omega | exact Nat.le_refl _⟩, ⟨ra HO_4.out⟩, ⟨bw⟩⟩
          rw [if_neg c21] at H; have c21b0 := beq_eq_false_iff_ne.mpr c21; have c21b1 := bne_iff_ne.mpr c21
          (first | rw [c21b0] | (simp only [i64_w, i32_w]; rw [c21b0]) | skip)
          have H' := Aside0.mk H; clear H
          as_aux_lemma =>
           go_wp2
           go_meet
           case rel => exact ⟨_, (false), cl, H', ⟨by have := HK1.out; have := HJ12.out; have := HJ15.out; first | omega | exact Nat.le_refl _⟩, ⟨ra HO_4.out⟩, ⟨bw⟩⟩
         case rest =>
          clear HC20; obtain ⟨kq, x74_19, rfl, HA, HJ19, HO_4, HB⟩ := hcut; cases kq with
          | zero => exact absurd HA.out (by simp [bulletinref12_Scan.j3])
          | succ kj19 =>
           have H := HA.out; clear HA; simp only [bulletinref12_Scan.j3] at H
           by_cases c33 : x74_19 = true
           ·subst c33; rw [if_pos rfl] at H; have H' := Aside0.mk H; clear H
            as_aux_lemma =>
             go_wp2
             go_roundg kj19
             case measure => have := HK1.out; have := HJ12.out; have := HJ15.out; have := HJ19.out; omega
             case rel => exact ⟨(x4_15), (x5_15), (x6_15), (x7_1), (false), (wrap64 ((wrap64 (x9_1 + 1)) + 1)), cl, cl, cl, cl, cl, H', ⟨by have := HK1.out; have := HJ12.out; have := HJ15.out; have := HJ19.out; omega⟩, ⟨ra HO_4.out⟩, ⟨bw⟩⟩
           replace c33 := Bool.eq_false_iff.mpr c33; subst c33; rw [if_neg nft] at H; have HC34 := Aside0.mk H; clear H
           go_upto_region 22 with (fail)
           go_cut [82] (fun v82 wc => ∃ (kq : Nat) (x82_33 : Bool), v82 = .bool x82_33 ∧ Aside0 (bulletinref12_Scan.j4 kq a0 x4_15 x5_15 x6_15 x7_1 false x9_1 (bt a0 x9_1) x82_33 = some (r1, r2)) ∧ Aside0 (kq ≤ kj19) ∧ Aside0 (Kd.R k113 113 wc w.heap.size (fun _ => True) u4 x4_15) ∧ Aside0 (Below w.heap.size w wc))
           case first =>
            have H := HC34.out; clear HC34
            by_cases c35 : x6_15 = 2
            ·rw [if_pos c35] at H; have c35b0 := beq_iff_eq.mpr c35; have c35b1 := bne_eq_false_iff_eq.mpr c35; clear c35
             (first | rw [c35b0] | (simp only [i64_w, i32_w]; rw [c35b0]) | skip)
             have H' := Aside0.mk H; clear H
             as_aux_lemma =>
              go_wp2
              go_meet
              case rel => exact ⟨_, (true), cl, H', ⟨by have := HK1.out; have := HJ12.out; have := HJ15.out; have := HJ19.out; first | omega | exact Nat.le_refl _⟩, ⟨ra HO_4.out⟩, ⟨bw⟩⟩
            rw [if_neg c35] at H; have c35b0 := beq_eq_false_iff_ne.mpr c35; have c35b1 := bne_iff_ne.mpr c35
            (first | rw [c35b0] | (simp only [i64_w, i32_w]; rw [c35b0]) | skip)
            have H' := Aside0.mk H; clear H
            as_aux_lemma =>
             go_wp2
             go_meet
             case rel => exact ⟨_, ((x6_15 == 3)), cl, H', ⟨by have := HK1.out; have := HJ12.out; have := HJ15.out; have := HJ19.out; first | omega | exact Nat.le_refl _⟩, ⟨ra HO_4.out⟩, ⟨bw⟩⟩
           case rest =>
            clear HC34; obtain ⟨kq, x82_33, rfl, HA, HJ33, HO_4, HB⟩ := hcut; cases kq with
            | zero => exact absurd HA.out (by simp [bulletinref12_Scan.j4])
            | succ kj33 =>
             have H := HA.out; clear HA; simp only [bulletinref12_Scan.j4] at H; have HC36 := Aside0.mk H; clear H
             go_upto_if 82 with (fail)
             go_cut [8] (fun v8 wc => ∃ (kq : Nat) (x8_35 : Bool), v8 = .bool x8_35 ∧ Aside0 (bulletinref12_Scan.j5 kq a0 x4_15 x5_15 x6_15 x7_1 x8_35 x9_1 (bt a0 x9_1) = some (r1, r2)) ∧ Aside0 (kq ≤ kj33) ∧ Aside0 (Kd.R k113 113 wc w.heap.size (fun _ => True) u4 x4_15) ∧ Aside0 (Below w.heap.size w wc))
             case first =>
              have H := HC36.out; clear HC36
              by_cases c37 : x82_33 = true
              ·subst c37; rw [if_pos rfl] at H
               by_cases c38 : (bt a0 x9_1) = 92
               ·rw [if_pos c38] at H; have c38b0 := beq_iff_eq.mpr c38; have c38b1 := bne_eq_false_iff_eq.mpr c38; clear c38
                (first | rw [c38b0] | (simp only [i64_w, i32_w]; rw [c38b0]) | skip)
                have H' := Aside0.mk H; clear H
                as_aux_lemma =>
                 go_wp2
                 go_roundg kj33
                 case measure => have := HK1.out; have := HJ12.out; have := HJ15.out; have := HJ19.out; have := HJ33.out; omega
                 case rel => exact ⟨(x4_15), (x5_15), (x6_15), (x7_1), (true), (wrap64 (x9_1 + 1)), cl, cl, cl, cl, cl, H', ⟨by have := HK1.out; have := HJ12.out; have := HJ15.out; have := HJ19.out; have := HJ33.out; omega⟩, ⟨ra HO_4.out⟩, ⟨bw⟩⟩
               rw [if_neg c38] at H; have c38b0 := beq_eq_false_iff_ne.mpr c38; have c38b1 := bne_iff_ne.mpr c38
               (first | rw [c38b0] | (simp only [i64_w, i32_w]; rw [c38b0]) | skip)
               replace H := Option.bind_eq_some_iff.mp H; obtain ⟨t249, A390, H⟩ := H; have A39 := Aside0.mk A390; clear A390
               by_cases c40 : t249 = true
               ·subst c40; rw [if_pos rfl] at H; have H' := Aside0.mk H; clear H
                as_aux_lemma =>
                 go_wp2_with (first | ((with_reducible refine gate_callee (f := 77) rfl ?_); refine goesL_ (some 86) rfl rfl Tryd.func77 (by kernel_rfl) rfl #[.int .u8 (bt a0 x9_1)] rfl am ?_; (with_reducible refine (bulletinref12_Text.calls (bt a0 x9_1) true _ A39.out).mono ?_); rintro e w' ⟨rfl, ⟨nd, rfl⟩⟩; refine ⟨_, rfl, ?_⟩))
                 go_meet
                 case rel => exact ⟨_, (false), cl, H', ⟨by have := HK1.out; have := HJ12.out; have := HJ15.out; have := HJ19.out; have := HJ33.out; first | omega | exact Nat.le_refl _⟩, ⟨ra HO_4.out⟩, ⟨bw⟩⟩
               replace c40 := Bool.eq_false_iff.mpr c40; subst c40; rw [if_neg nft] at H; simp only [Option.some.injEq, Prod.mk.injEq] at H; obtain ⟨rfl, rfl⟩ := H
               as_aux_lemma =>
                go_wp2_with (first | ((with_reducible refine gate_callee (f := 77) rfl ?_); refine goesL_ (some 86) rfl rfl Tryd.func77 (by kernel_rfl) rfl #[.int .u8 (bt a0 x9_1)] rfl am ?_; (with_reducible refine (bulletinref12_Text.calls (bt a0 x9_1) false _ A39.out).mono ?_); rintro e w' ⟨rfl, ⟨nd, rfl⟩⟩; refine ⟨_, rfl, ?_⟩))
                go_ret2
                exact ⟨_, ew, by first | exact Kd.R_nil _ _ _ _ _ | exact Kd.N_nil _ _ _ _ _ | exact Kd.V_nil _ _ _ _ _ | exact Kd.Q_nil _ _ _ _ _ | exact Kd.S_nil _ _ _ _ _, bw⟩
              replace c37 := Bool.eq_false_iff.mpr c37; subst c37; rw [if_neg nft] at H; have H' := Aside0.mk H; clear H
              as_aux_lemma =>
               go_wp2
               go_meet
               case rel => exact ⟨_, (false), cl, H', ⟨by have := HK1.out; have := HJ12.out; have := HJ15.out; have := HJ19.out; have := HJ33.out; first | omega | exact Nat.le_refl _⟩, ⟨ra HO_4.out⟩, ⟨bw⟩⟩
             case rest =>
              clear HC36; obtain ⟨kq, x8_35, rfl, HA, HJ35, HO_4, HB⟩ := hcut; cases kq with
              | zero => exact absurd HA.out (by simp [bulletinref12_Scan.j5])
              | succ kj35 =>
               have H := HA.out; clear HA; simp only [bulletinref12_Scan.j5] at H
               by_cases c41 : x6_15 = 2
               ·rw [if_pos c41] at H; have c41b0 := beq_iff_eq.mpr c41; have c41b1 := bne_eq_false_iff_eq.mpr c41; clear c41
                by_cases c42 : (bt a0 x9_1) = 34
                ·rw [if_pos c42] at H; have c42b0 := beq_iff_eq.mpr c42; have c42b1 := bne_eq_false_iff_eq.mpr c42; clear c42
                 by_cases c43 : x4_15.length < 5864062014805
                 ·rw [if_pos c43] at H; have LMc43 := Aside0.mk c43; clear c43; obtain ⟨y250, hy250⟩ : ∃ y_ : List (S113), y_ = (x4_15 ++ [(⟨2, x5_15⟩ : S113)]) := ⟨_, rfl⟩
                  replace H : (bulletinref12_Scan.l0 kj35 a0 y250 (⟨#[]⟩ : ByteArray) 0 x7_1 x8_35 (wrap64 (x9_1 + 1))) = some (r1, r2) := by first | (rw [hy250]; with_reducible exact H) | (have H2_ := (Option.bind_some _ _).symm.trans H; rw [hy250]; with_reducible exact H2_) | (have H2_ := (Option.bind_some _ _).symm.trans H; with_reducible exact H2_) | with_reducible exact H | (rw [hy250]; exact H) | exact H
                  have Ny250 := Aside0.mk hy250; clear hy250; have H' := Aside0.mk H; clear H
                  as_aux_lemma =>
                   go_wp2_with (first | ((with_reducible refine gate_builtin (b := .append) (xs := #[.tmp 92, .tmp 95]) rfl ?_); (try (refine gate_guard (by rfl) ?_; dsimp only)); at_builtin; refine Kd.R_append k113 (w0 := w) w.heap.size rfl (.tmp 92) (.tmp 95) 67 113 (.agg #[(.int .i64 0), (.string ⟨#[]⟩)]) 24 rfl Tryd.underlying67 info113 rfl (by decide) (by omega) u4 x4_15 (⟨2, x5_15⟩ : S113) [.int .i64 2, .string x5_15] (fun _ => True) (fun _ => False) rfl rfl ?aP (fun _ hk => hk.elim) ?aF ?aO ?aB ?aS ?aL ?_; (case aP => exact k113_mkM _ _ _ (⟨2, x5_15⟩ : S113)); (case aB => exact bw); (case aF => exact (fun _ _ => trivial)); (case aO => exact (ra HO_4.out)); (case aS => exact (below_size bw)); (case aL => have := LMc43.out; omega); intro v251 w44 ho hb hg hat; rw [← Ny250.out] at ho; have n0_ := Aside0.mk (hb); have n1_ := Aside0.mk (ho); clear HB; clear HO_4; have HB := n0_; have HO252 := n1_; clear n0_ n1_; clear ho hb hg hat))
                   go_roundg kj35
                   case measure => have := HK1.out; have := HJ12.out; have := HJ15.out; have := HJ19.out; have := HJ33.out; have := HJ35.out; omega
                   case rel => exact ⟨(y250), ((⟨#[]⟩ : ByteArray)), (0), (x7_1), (x8_35), (wrap64 (x9_1 + 1)), cl, cl, cl, cl, cl, H', ⟨by have := HK1.out; have := HJ12.out; have := HJ15.out; have := HJ19.out; have := HJ33.out; have := HJ35.out; omega⟩, ⟨ra HO252.out⟩, ⟨bw⟩⟩
                 rw [if_neg c43] at H; exact absurd H (by simp)
                rw [if_neg c42] at H; have c42b0 := beq_eq_false_iff_ne.mpr c42; have c42b1 := bne_iff_ne.mpr c42
                by_cases c45 : 0 ≤ x9_1
                ·rw [if_pos c45] at H; have c45b0 := eq_true c45; have c45b1 := decide_eq_true c45; clear c45
                 by_cases c46 : x9_1 ≤ (wrap64 (x9_1 + 1))
                 ·rw [if_pos c46] at H; have c46b0 := eq_true c46; have c46b1 := decide_eq_true c46
                  by_cases c47 : (wrap64 (x9_1 + 1)) ≤ (a0.size : Int)
                  ·rw [if_pos c47] at H; have c47b0 := eq_true c47; have c47b1 := decide_eq_true c47
                   by_cases c48 : x5_15.size + (a0.extract (x9_1 : Int).toNat ((wrap64 (x9_1 + 1)) : Int).toNat).size ≤ 9223372036854775807
                   ·rw [if_pos c48] at H; have c48b0 := eq_true c48; have c48b1 := decide_eq_true c48
                    try have c48b2 : (9223372036854775807 < x5_15.size + (a0.extract (x9_1 : Int).toNat ((wrap64 (x9_1 + 1)) : Int).toNat).size) = False := eq_false (Nat.not_lt.2 c48)
                    try (have c48b3 := c48; simp only [ByteArray.size_append, size_lit, ByteArray.size_extract, List.size_toArray, List.length_cons, List.length_nil, Nat.zero_add, Nat.reduceAdd] at c48b3; have c48b4 := eq_false (Nat.not_lt.2 c48b3))
                    have H' := Aside0.mk H; clear H
                    as_aux_lemma =>
                     go_wp2
                     go_roundg kj35
                     case measure => have := HK1.out; have := HJ12.out; have := HJ15.out; have := HJ19.out; have := HJ33.out; have := HJ35.out; omega
                     case rel => exact ⟨(x4_15), (x5_15 ++ (a0.extract (x9_1 : Int).toNat ((wrap64 (x9_1 + 1)) : Int).toNat)), (x6_15), (x7_1), (x8_35), (wrap64 (x9_1 + 1)), cl, cl, cl, cl, cl, H', ⟨by have := HK1.out; have := HJ12.out; have := HJ15.out; have := HJ19.out; have := HJ33.out; have := HJ35.out; omega⟩, ⟨ra HO_4.out⟩, ⟨bw⟩⟩
                   rw [if_neg c48] at H; exact absurd H (by simp)
                  rw [if_neg c47] at H; exact absurd H (by simp)
                 rw [if_neg c46] at H; exact absurd H (by simp)
                rw [if_neg c45] at H; exact absurd H (by simp)
               rw [if_neg c41] at H; have c41b0 := beq_eq_false_iff_ne.mpr c41; have c41b1 := bne_iff_ne.mpr c41
               by_cases c49 : x6_15 = 3
               ·rw [if_pos c49] at H; have c49b0 := beq_iff_eq.mpr c49; have c49b1 := bne_eq_false_iff_eq.mpr c49; clear c49; have HC50 := Aside0.mk H; clear H
                go_upto_if 107 with (fail)
                go_cut [7] (fun v7 wc => ∃ (kq : Nat) (x7_49 : Int), v7 = .int .i64 x7_49 ∧ Aside0 (bulletinref12_Scan.j6 kq a0 x4_15 x5_15 x6_15 x7_49 x8_35 x9_1 (bt a0 x9_1) = some (r1, r2)) ∧ Aside0 (kq ≤ kj35) ∧ Aside0 (Kd.R k113 113 wc w.heap.size (fun _ => True) u4 x4_15) ∧ Aside0 (Below w.heap.size w wc))
                case first =>
                 have H := HC50.out; clear HC50
                 by_cases c51 : (bt a0 x9_1) = 40
                 ·rw [if_pos c51] at H; have c51b0 := beq_iff_eq.mpr c51; have c51b1 := bne_eq_false_iff_eq.mpr c51; clear c51
                  (first | rw [c51b0] | (simp only [i64_w, i32_w]; rw [c51b0]) | skip)
                  have H' := Aside0.mk H; clear H
                  as_aux_lemma =>
                   go_wp2
                   go_meet
                   case rel => exact ⟨_, (wrap64 (x7_1 + 1)), cl, H', ⟨by have := HK1.out; have := HJ12.out; have := HJ15.out; have := HJ19.out; have := HJ33.out; have := HJ35.out; first | omega | exact Nat.le_refl _⟩, ⟨ra HO_4.out⟩, ⟨bw⟩⟩
                 rw [if_neg c51] at H; have c51b0 := beq_eq_false_iff_ne.mpr c51; have c51b1 := bne_iff_ne.mpr c51
                 (first | rw [c51b0] | (simp only [i64_w, i32_w]; rw [c51b0]) | skip)
                 have H' := Aside0.mk H; clear H
                 as_aux_lemma =>
                  go_wp2
                  go_meet
                  case rel => exact ⟨_, (x7_1), cl, H', ⟨by have := HK1.out; have := HJ12.out; have := HJ15.out; have := HJ19.out; have := HJ33.out; have := HJ35.out; first | omega | exact Nat.le_refl _⟩, ⟨ra HO_4.out⟩, ⟨bw⟩⟩
                case rest =>
                 clear HC50 c41 c41b0 c41b1 c49b0 c49b1; obtain ⟨kq, x7_49, rfl, HA, HJ49, HO_4, HB⟩ := hcut; cases kq with
                 | zero => exact absurd HA.out (by simp [bulletinref12_Scan.j6])
                 | succ kj49 =>
                  have H := HA.out; clear HA; simp only [bulletinref12_Scan.j6] at H; have HC52 := Aside0.mk H; clear H
                  go_upto_if 111 with (fail)
                  go_cut [7] (fun v7 wc => ∃ (kq : Nat) (x7_51 : Int), v7 = .int .i64 x7_51 ∧ Aside0 (bulletinref12_Scan.j7 kq a0 x4_15 x5_15 x6_15 x7_51 x8_35 x9_1 = some (r1, r2)) ∧ Aside0 (kq ≤ kj49) ∧ Aside0 (Kd.R k113 113 wc w.heap.size (fun _ => True) u4 x4_15) ∧ Aside0 (Below w.heap.size w wc))
                  case first =>
                   have H := HC52.out; clear HC52
                   by_cases c53 : (bt a0 x9_1) = 41
                   ·rw [if_pos c53] at H; have c53b0 := beq_iff_eq.mpr c53; have c53b1 := bne_eq_false_iff_eq.mpr c53; clear c53
                    (first | rw [c53b0] | (simp only [i64_w, i32_w]; rw [c53b0]) | skip)
                    have H' := Aside0.mk H; clear H
                    as_aux_lemma =>
                     go_wp2
                     go_meet
                     case rel => exact ⟨_, (wrap64 (x7_49 - 1)), cl, H', ⟨by have := HK1.out; have := HJ12.out; have := HJ15.out; have := HJ19.out; have := HJ33.out; have := HJ35.out; have := HJ49.out; first | omega | exact Nat.le_refl _⟩, ⟨ra HO_4.out⟩, ⟨bw⟩⟩
                   rw [if_neg c53] at H; have c53b0 := beq_eq_false_iff_ne.mpr c53; have c53b1 := bne_iff_ne.mpr c53
                   (first | rw [c53b0] | (simp only [i64_w, i32_w]; rw [c53b0]) | skip)
                   have H' := Aside0.mk H; clear H
                   as_aux_lemma =>
                    go_wp2
                    go_meet
                    case rel => exact ⟨_, (x7_49), cl, H', ⟨by have := HK1.out; have := HJ12.out; have := HJ15.out; have := HJ19.out; have := HJ33.out; have := HJ35.out; have := HJ49.out; first | omega | exact Nat.le_refl _⟩, ⟨ra HO_4.out⟩, ⟨bw⟩⟩
                  case rest =>
                   clear HC52; obtain ⟨kq, x7_51, rfl, HA, HJ51, HO_4, HB⟩ := hcut; cases kq with
                   | zero => exact absurd HA.out (by simp [bulletinref12_Scan.j7])
                   | succ kj51 =>
                    have H := HA.out; clear HA; simp only [bulletinref12_Scan.j7] at H
                    by_cases c54 : x7_51 > 16
                    ·rw [if_pos c54] at H; have c54b0 : decide (16 < x7_51) = true := decide_eq_true c54; clear c54; simp only [Option.some.injEq, Prod.mk.injEq] at H; obtain ⟨rfl, rfl⟩ := H
                     as_aux_lemma =>
                      go_wp2
                      go_ret2
                      exact ⟨_, ew, by first | exact Kd.R_nil _ _ _ _ _ | exact Kd.N_nil _ _ _ _ _ | exact Kd.V_nil _ _ _ _ _ | exact Kd.Q_nil _ _ _ _ _ | exact Kd.S_nil _ _ _ _ _, bw⟩
                    rw [if_neg c54] at H; have c54b0 : decide (16 < x7_51) = false := decide_eq_false c54; clear c54
                    by_cases c55 : x7_51 = 0
                    ·rw [if_pos c55] at H; have c55b0 := beq_iff_eq.mpr c55; have c55b1 := bne_eq_false_iff_eq.mpr c55; clear c55; have H' := Aside0.mk H; clear H
                     as_aux_lemma =>
                      go_wp2
                      go_roundg kj51
                      case measure => have := HK1.out; have := HJ12.out; have := HJ15.out; have := HJ19.out; have := HJ33.out; have := HJ35.out; have := HJ49.out; have := HJ51.out; omega
                      case rel => exact ⟨(x4_15), (x5_15), (0), (x7_51), (x8_35), (wrap64 (x9_1 + 1)), cl, cl, cl, cl, cl, H', ⟨by have := HK1.out; have := HJ12.out; have := HJ15.out; have := HJ19.out; have := HJ33.out; have := HJ35.out; have := HJ49.out; have := HJ51.out; omega⟩, ⟨ra HO_4.out⟩, ⟨bw⟩⟩
                    rw [if_neg c55] at H; have c55b0 := beq_eq_false_iff_ne.mpr c55; have c55b1 := bne_iff_ne.mpr c55; have H' := Aside0.mk H; clear H
                    as_aux_lemma =>
                     go_wp2
                     go_roundg kj51
                     case measure => have := HK1.out; have := HJ12.out; have := HJ15.out; have := HJ19.out; have := HJ33.out; have := HJ35.out; have := HJ49.out; have := HJ51.out; omega
                     case rel => exact ⟨(x4_15), (x5_15), (x6_15), (x7_51), (x8_35), (wrap64 (x9_1 + 1)), cl, cl, cl, cl, cl, H', ⟨by have := HK1.out; have := HJ12.out; have := HJ15.out; have := HJ19.out; have := HJ33.out; have := HJ35.out; have := HJ49.out; have := HJ51.out; omega⟩, ⟨ra HO_4.out⟩, ⟨bw⟩⟩
               rw [if_neg c49] at H; have c49b0 := beq_eq_false_iff_ne.mpr c49; have c49b1 := bne_iff_ne.mpr c49; replace H := Option.bind_eq_some_iff.mp H; obtain ⟨t253, A560, H⟩ := H; have A56 := Aside0.mk A560; clear A560
               by_cases c57 : t253 = true
               ·subst c57; rw [if_pos rfl] at H
                by_cases c58 : 0 ≤ x9_1
                ·rw [if_pos c58] at H; have c58b0 := eq_true c58; have c58b1 := decide_eq_true c58; clear c58
                 by_cases c59 : x9_1 ≤ (wrap64 (x9_1 + 1))
                 ·rw [if_pos c59] at H; have c59b0 := eq_true c59; have c59b1 := decide_eq_true c59
                  by_cases c60 : (wrap64 (x9_1 + 1)) ≤ (a0.size : Int)
                  ·rw [if_pos c60] at H; have c60b0 := eq_true c60; have c60b1 := decide_eq_true c60
                   by_cases c61 : x5_15.size + (a0.extract (x9_1 : Int).toNat ((wrap64 (x9_1 + 1)) : Int).toNat).size ≤ 9223372036854775807
                   ·rw [if_pos c61] at H; have c61b0 := eq_true c61; have c61b1 := decide_eq_true c61
                    try have c61b2 : (9223372036854775807 < x5_15.size + (a0.extract (x9_1 : Int).toNat ((wrap64 (x9_1 + 1)) : Int).toNat).size) = False := eq_false (Nat.not_lt.2 c61)
                    try (have c61b3 := c61; simp only [ByteArray.size_append, size_lit, ByteArray.size_extract, List.size_toArray, List.length_cons, List.length_nil, Nat.zero_add, Nat.reduceAdd] at c61b3; have c61b4 := eq_false (Nat.not_lt.2 c61b3))
                    have H' := Aside0.mk H; clear H
                    as_aux_lemma =>
                     go_wp2_with (first | ((with_reducible refine gate_callee (f := 78) rfl ?_); refine goesL_ (some 119) rfl rfl Tryd.func78 (by kernel_rfl) rfl #[.int .u8 (bt a0 x9_1)] rfl am ?_; (with_reducible refine (bulletinref12_atomic.calls kj35 (bt a0 x9_1) true _ A56.out).mono ?_); rintro e w' ⟨rfl, ⟨nd, rfl⟩⟩; refine ⟨_, rfl, ?_⟩))
                     go_roundg kj35
                     case measure => have := HK1.out; have := HJ12.out; have := HJ15.out; have := HJ19.out; have := HJ33.out; have := HJ35.out; omega
                     case rel => exact ⟨(x4_15), (x5_15 ++ (a0.extract (x9_1 : Int).toNat ((wrap64 (x9_1 + 1)) : Int).toNat)), (1), (x7_1), (x8_35), (wrap64 (x9_1 + 1)), cl, cl, cl, cl, cl, H', ⟨by have := HK1.out; have := HJ12.out; have := HJ15.out; have := HJ19.out; have := HJ33.out; have := HJ35.out; omega⟩, ⟨ra HO_4.out⟩, ⟨bw⟩⟩
                   rw [if_neg c61] at H; exact absurd H (by simp)
                  rw [if_neg c60] at H; exact absurd H (by simp)
                 rw [if_neg c59] at H; exact absurd H (by simp)
                rw [if_neg c58] at H; exact absurd H (by simp)
               replace c57 := Bool.eq_false_iff.mpr c57; subst c57; rw [if_neg nft] at H
               by_cases c62 : (bt a0 x9_1) = 34
               ·rw [if_pos c62] at H; have c62b0 := beq_iff_eq.mpr c62; have c62b1 := bne_eq_false_iff_eq.mpr c62; clear c62; have H' := Aside0.mk H; clear H
                as_aux_lemma =>
                 go_wp2_with (first | ((with_reducible refine gate_callee (f := 78) rfl ?_); refine goesL_ (some 119) rfl rfl Tryd.func78 (by kernel_rfl) rfl #[.int .u8 (bt a0 x9_1)] rfl am ?_; (with_reducible refine (bulletinref12_atomic.calls kj35 (bt a0 x9_1) false _ A56.out).mono ?_); rintro e w' ⟨rfl, ⟨nd, rfl⟩⟩; refine ⟨_, rfl, ?_⟩))
                 go_roundg kj35
                 case measure => have := HK1.out; have := HJ12.out; have := HJ15.out; have := HJ19.out; have := HJ33.out; have := HJ35.out; omega
                 case rel => exact ⟨(x4_15), (x5_15), (2), (x7_1), (x8_35), (wrap64 (x9_1 + 1)), cl, cl, cl, cl, cl, H', ⟨by have := HK1.out; have := HJ12.out; have := HJ15.out; have := HJ19.out; have := HJ33.out; have := HJ35.out; omega⟩, ⟨ra HO_4.out⟩, ⟨bw⟩⟩
               rw [if_neg c62] at H; have c62b0 := beq_eq_false_iff_ne.mpr c62; have c62b1 := bne_iff_ne.mpr c62
               by_cases c63 : (bt a0 x9_1) = 40
               ·rw [if_pos c63] at H; have c63b0 := beq_iff_eq.mpr c63; have c63b1 := bne_eq_false_iff_eq.mpr c63; clear c63; have H' := Aside0.mk H; clear H
                as_aux_lemma =>
                 go_wp2_with (first | ((with_reducible refine gate_callee (f := 78) rfl ?_); refine goesL_ (some 119) rfl rfl Tryd.func78 (by kernel_rfl) rfl #[.int .u8 (bt a0 x9_1)] rfl am ?_; (with_reducible refine (bulletinref12_atomic.calls kj35 (bt a0 x9_1) false _ A56.out).mono ?_); rintro e w' ⟨rfl, ⟨nd, rfl⟩⟩; refine ⟨_, rfl, ?_⟩))
                 go_roundg kj35
                 case measure => have := HK1.out; have := HJ12.out; have := HJ15.out; have := HJ19.out; have := HJ33.out; have := HJ35.out; omega
                 case rel => exact ⟨(x4_15), (x5_15), (3), (1), (x8_35), (wrap64 (x9_1 + 1)), cl, cl, cl, cl, cl, H', ⟨by have := HK1.out; have := HJ12.out; have := HJ15.out; have := HJ19.out; have := HJ33.out; have := HJ35.out; omega⟩, ⟨ra HO_4.out⟩, ⟨bw⟩⟩
               rw [if_neg c63] at H; have c63b0 := beq_eq_false_iff_ne.mpr c63; have c63b1 := bne_iff_ne.mpr c63; replace H := Option.bind_eq_some_iff.mp H; obtain ⟨t254, A640, H⟩ := H; have A64 := Aside0.mk A640; clear A640
               by_cases c65 : t254 = true
               ·subst c65; rw [if_pos rfl] at H
                by_cases c66 : 0 ≤ x9_1
                ·rw [if_pos c66] at H; have c66b0 := eq_true c66; have c66b1 := decide_eq_true c66; clear c66
                 by_cases c67 : x9_1 ≤ (wrap64 (x9_1 + 1))
                 ·rw [if_pos c67] at H; have c67b0 := eq_true c67; have c67b1 := decide_eq_true c67
                  by_cases c68 : (wrap64 (x9_1 + 1)) ≤ (a0.size : Int)
                  ·rw [if_pos c68] at H; have c68b0 := eq_true c68; have c68b1 := decide_eq_true c68
                   by_cases c69 : x4_15.length < 5864062014805
                   ·rw [if_pos c69] at H; have LMc69 := Aside0.mk c69; clear c69; obtain ⟨y255, hy255⟩ : ∃ y_ : List (S113), y_ = (x4_15 ++ [(⟨3, a0.extract (x9_1 : Int).toNat ((wrap64 (x9_1 + 1)) : Int).toNat⟩ : S113)]) := ⟨_, rfl⟩
                    replace H : (bulletinref12_Scan.l0 kj35 a0 y255 x5_15 x6_15 x7_1 x8_35 (wrap64 (x9_1 + 1))) = some (r1, r2) := by first | (rw [hy255]; with_reducible exact H) | (have H2_ := (Option.bind_some _ _).symm.trans H; rw [hy255]; with_reducible exact H2_) | (have H2_ := (Option.bind_some _ _).symm.trans H; with_reducible exact H2_) | with_reducible exact H | (rw [hy255]; exact H) | exact H
                    have Ny255 := Aside0.mk hy255; clear hy255; have H' := Aside0.mk H; clear H
                    as_aux_lemma =>
                     go_wp2_with (first | ((with_reducible refine gate_callee (f := 78) rfl ?_); refine goesL_ (some 119) rfl rfl Tryd.func78 (by kernel_rfl) rfl #[.int .u8 (bt a0 x9_1)] rfl am ?_; (with_reducible refine (bulletinref12_atomic.calls kj35 (bt a0 x9_1) false _ A56.out).mono ?_); rintro e w' ⟨rfl, ⟨nd, rfl⟩⟩; refine ⟨_, rfl, ?_⟩) | ((with_reducible refine gate_callee (f := 79) rfl ?_); refine goesL_ (some 132) rfl rfl Tryd.func79 (by kernel_rfl) rfl #[.int .u8 (bt a0 x9_1), .string (⟨#[60, 62, 58, 59, 64, 44, 46]⟩ : ByteArray)] rfl am ?_; (with_reducible refine (bulletinref12_among.calls kj35 (bt a0 x9_1) (⟨#[60, 62, 58, 59, 64, 44, 46]⟩ : ByteArray) true _ A64.out).mono ?_); rintro e w' ⟨rfl, ⟨nd, rfl⟩⟩; refine ⟨_, rfl, ?_⟩) | ((with_reducible refine gate_builtin (b := .append) (xs := #[.tmp 133, .tmp 140]) rfl ?_); (try (refine gate_guard (by rfl) ?_; dsimp only)); at_builtin; refine Kd.R_append k113 (w0 := w) w.heap.size rfl (.tmp 133) (.tmp 140) 67 113 (.agg #[(.int .i64 0), (.string ⟨#[]⟩)]) 24 rfl Tryd.underlying67 info113 rfl (by decide) (by omega) u4 x4_15 (⟨3, a0.extract (x9_1 : Int).toNat ((wrap64 (x9_1 + 1)) : Int).toNat⟩ : S113) [.int .i64 3, .string (a0.extract (x9_1 : Int).toNat ((wrap64 (x9_1 + 1)) : Int).toNat)] (fun _ => True) (fun _ => False) rfl rfl ?aP (fun _ hk => hk.elim) ?aF ?aO ?aB ?aS ?aL ?_; (case aP => exact k113_mkM _ _ _ (⟨3, a0.extract (x9_1 : Int).toNat ((wrap64 (x9_1 + 1)) : Int).toNat⟩ : S113)); (case aB => exact bw); (case aF => exact (fun _ _ => trivial)); (case aO => exact (ra HO_4.out)); (case aS => exact (below_size bw)); (case aL => have := LMc69.out; omega); intro v256 w70 ho hb hg hat; rw [← Ny255.out] at ho; have n0_ := Aside0.mk (hb); have n1_ := Aside0.mk (ho); clear HB; clear HO_4; have HB := n0_; have HO257 := n1_; clear n0_ n1_; clear ho hb hg hat))
                     go_roundg kj35
                     case measure => have := HK1.out; have := HJ12.out; have := HJ15.out; have := HJ19.out; have := HJ33.out; have := HJ35.out; omega
                     case rel => exact ⟨(y255), (x5_15), (x6_15), (x7_1), (x8_35), (wrap64 (x9_1 + 1)), cl, cl, cl, cl, cl, H', ⟨by have := HK1.out; have := HJ12.out; have := HJ15.out; have := HJ19.out; have := HJ33.out; have := HJ35.out; omega⟩, ⟨ra HO257.out⟩, ⟨bw⟩⟩
                   rw [if_neg c69] at H; exact absurd H (by simp)
                  rw [if_neg c68] at H; exact absurd H (by simp)
                 rw [if_neg c67] at H; exact absurd H (by simp)
                rw [if_neg c66] at H; exact absurd H (by simp)
               replace c65 := Bool.eq_false_iff.mpr c65; subst c65; rw [if_neg nft] at H
               by_cases c71 : (bt a0 x9_1) = 32
               ·rw [if_pos c71] at H; have c71b0 := beq_iff_eq.mpr c71; have c71b1 := bne_eq_false_iff_eq.mpr c71; clear c71; have H' := Aside0.mk H; clear H
                as_aux_lemma =>
                 go_wp2_with (first | ((with_reducible refine gate_callee (f := 78) rfl ?_); refine goesL_ (some 119) rfl rfl Tryd.func78 (by kernel_rfl) rfl #[.int .u8 (bt a0 x9_1)] rfl am ?_; (with_reducible refine (bulletinref12_atomic.calls kj35 (bt a0 x9_1) false _ A56.out).mono ?_); rintro e w' ⟨rfl, ⟨nd, rfl⟩⟩; refine ⟨_, rfl, ?_⟩) | ((with_reducible refine gate_callee (f := 79) rfl ?_); refine goesL_ (some 132) rfl rfl Tryd.func79 (by kernel_rfl) rfl #[.int .u8 (bt a0 x9_1), .string (⟨#[60, 62, 58, 59, 64, 44, 46]⟩ : ByteArray)] rfl am ?_; (with_reducible refine (bulletinref12_among.calls kj35 (bt a0 x9_1) (⟨#[60, 62, 58, 59, 64, 44, 46]⟩ : ByteArray) false _ A64.out).mono ?_); rintro e w' ⟨rfl, ⟨nd, rfl⟩⟩; refine ⟨_, rfl, ?_⟩))
                 go_roundg kj35
                 case measure => have := HK1.out; have := HJ12.out; have := HJ15.out; have := HJ19.out; have := HJ33.out; have := HJ35.out; omega
                 case rel => exact ⟨(x4_15), (x5_15), (x6_15), (x7_1), (x8_35), (wrap64 (x9_1 + 1)), cl, cl, cl, cl, cl, H', ⟨by have := HK1.out; have := HJ12.out; have := HJ15.out; have := HJ19.out; have := HJ33.out; have := HJ35.out; omega⟩, ⟨ra HO_4.out⟩, ⟨bw⟩⟩
               rw [if_neg c71] at H; have c71b0 := beq_eq_false_iff_ne.mpr c71; have c71b1 := bne_iff_ne.mpr c71
               by_cases c72 : (bt a0 x9_1) = 9
               ·rw [if_pos c72] at H; have c72b0 := beq_iff_eq.mpr c72; have c72b1 := bne_eq_false_iff_eq.mpr c72; clear c72; have H' := Aside0.mk H; clear H
                as_aux_lemma =>
                 go_wp2_with (first | ((with_reducible refine gate_callee (f := 78) rfl ?_); refine goesL_ (some 119) rfl rfl Tryd.func78 (by kernel_rfl) rfl #[.int .u8 (bt a0 x9_1)] rfl am ?_; (with_reducible refine (bulletinref12_atomic.calls kj35 (bt a0 x9_1) false _ A56.out).mono ?_); rintro e w' ⟨rfl, ⟨nd, rfl⟩⟩; refine ⟨_, rfl, ?_⟩) | ((with_reducible refine gate_callee (f := 79) rfl ?_); refine goesL_ (some 132) rfl rfl Tryd.func79 (by kernel_rfl) rfl #[.int .u8 (bt a0 x9_1), .string (⟨#[60, 62, 58, 59, 64, 44, 46]⟩ : ByteArray)] rfl am ?_; (with_reducible refine (bulletinref12_among.calls kj35 (bt a0 x9_1) (⟨#[60, 62, 58, 59, 64, 44, 46]⟩ : ByteArray) false _ A64.out).mono ?_); rintro e w' ⟨rfl, ⟨nd, rfl⟩⟩; refine ⟨_, rfl, ?_⟩))
                 go_roundg kj35
                 case measure => have := HK1.out; have := HJ12.out; have := HJ15.out; have := HJ19.out; have := HJ33.out; have := HJ35.out; omega
                 case rel => exact ⟨(x4_15), (x5_15), (x6_15), (x7_1), (x8_35), (wrap64 (x9_1 + 1)), cl, cl, cl, cl, cl, H', ⟨by have := HK1.out; have := HJ12.out; have := HJ15.out; have := HJ19.out; have := HJ33.out; have := HJ35.out; omega⟩, ⟨ra HO_4.out⟩, ⟨bw⟩⟩
               rw [if_neg c72] at H; have c72b0 := beq_eq_false_iff_ne.mpr c72; have c72b1 := bne_iff_ne.mpr c72; simp only [Option.some.injEq, Prod.mk.injEq] at H; obtain ⟨rfl, rfl⟩ := H
               as_aux_lemma =>
                go_wp2_with (first | ((with_reducible refine gate_callee (f := 78) rfl ?_); refine goesL_ (some 119) rfl rfl Tryd.func78 (by kernel_rfl) rfl #[.int .u8 (bt a0 x9_1)] rfl am ?_; (with_reducible refine (bulletinref12_atomic.calls kj35 (bt a0 x9_1) false _ A56.out).mono ?_); rintro e w' ⟨rfl, ⟨nd, rfl⟩⟩; refine ⟨_, rfl, ?_⟩) | ((with_reducible refine gate_callee (f := 79) rfl ?_); refine goesL_ (some 132) rfl rfl Tryd.func79 (by kernel_rfl) rfl #[.int .u8 (bt a0 x9_1), .string (⟨#[60, 62, 58, 59, 64, 44, 46]⟩ : ByteArray)] rfl am ?_; (with_reducible refine (bulletinref12_among.calls kj35 (bt a0 x9_1) (⟨#[60, 62, 58, 59, 64, 44, 46]⟩ : ByteArray) false _ A64.out).mono ?_); rintro e w' ⟨rfl, ⟨nd, rfl⟩⟩; refine ⟨_, rfl, ?_⟩))
                go_ret2
                exact ⟨_, ew, by first | exact Kd.R_nil _ _ _ _ _ | exact Kd.N_nil _ _ _ _ _ | exact Kd.V_nil _ _ _ _ _ | exact Kd.Q_nil _ _ _ _ _ | exact Kd.S_nil _ _ _ _ _, bw⟩
    rw [if_neg c3] at H; exact absurd H (by simp)
   rw [if_neg c2] at H; have c2b0 := decide_eq_false c2; clear c2
   by_cases c73 : x6_1 ≥ 2
   ·rw [if_pos c73] at H; have c73b0 : decide (2 ≤ x6_1) = true := decide_eq_true c73; clear c73; simp only [Option.some.injEq, Prod.mk.injEq] at H; obtain ⟨rfl, rfl⟩ := H
    as_aux_lemma =>
     go_wp2
     go_ret2
     exact ⟨_, ew, by first | exact Kd.R_nil _ _ _ _ _ | exact Kd.N_nil _ _ _ _ _ | exact Kd.V_nil _ _ _ _ _ | exact Kd.Q_nil _ _ _ _ _ | exact Kd.S_nil _ _ _ _ _, bw⟩
   rw [if_neg c73] at H; have c73b0 : decide (2 ≤ x6_1) = false := decide_eq_false c73; clear c73
   by_cases c74 : x6_1 = 1
   ·rw [if_pos c74] at H; have c74b0 := beq_iff_eq.mpr c74; have c74b1 := bne_eq_false_iff_eq.mpr c74; clear c74
    by_cases c75 : x4_1.length < 5864062014805
    ·rw [if_pos c75] at H; have LMc75 := Aside0.mk c75; clear c75; obtain ⟨y258, hy258⟩ : ∃ y_ : List (S113), y_ = (x4_1 ++ [(⟨1, x5_1⟩ : S113)]) := ⟨_, rfl⟩
     replace H : (some (y258, 0)) = some (r1, r2) := by first | (rw [hy258]; with_reducible exact H) | (have H2_ := (Option.bind_some _ _).symm.trans H; rw [hy258]; with_reducible exact H2_) | (have H2_ := (Option.bind_some _ _).symm.trans H; with_reducible exact H2_) | with_reducible exact H | (rw [hy258]; exact H) | exact H
     have Ny258 := Aside0.mk hy258; clear hy258; simp only [Option.some.injEq, Prod.mk.injEq] at H; obtain ⟨rfl, rfl⟩ := H
     as_aux_lemma =>
      go_wp2_with (first | ((with_reducible refine gate_builtin (b := .append) (xs := #[.tmp 152, .tmp 155]) rfl ?_); (try (refine gate_guard (by rfl) ?_; dsimp only)); at_builtin; refine Kd.R_append k113 (w0 := w) w.heap.size rfl (.tmp 152) (.tmp 155) 67 113 (.agg #[(.int .i64 0), (.string ⟨#[]⟩)]) 24 rfl Tryd.underlying67 info113 rfl (by decide) (by omega) u4 x4_1 (⟨1, x5_1⟩ : S113) [.int .i64 1, .string x5_1] (fun _ => True) (fun _ => False) rfl rfl ?aP (fun _ hk => hk.elim) ?aF ?aO ?aB ?aS ?aL ?_; (case aP => exact k113_mkM _ _ _ (⟨1, x5_1⟩ : S113)); (case aB => exact bw); (case aF => exact (fun _ _ => trivial)); (case aO => exact (ra HO_4.out)); (case aS => exact (below_size bw)); (case aL => have := LMc75.out; omega); intro v259 w76 ho hb hg hat; rw [← Ny258.out] at ho; have n0_ := Aside0.mk (hb); have n1_ := Aside0.mk (ho); clear HB; clear HO_4; have HB := n0_; have HO260 := n1_; clear n0_ n1_; clear ho hb hg hat))
      go_ret2
      exact ⟨_, ew, ra HO260.out, bw⟩
    rw [if_neg c75] at H; exact absurd H (by simp)
   rw [if_neg c74] at H; have c74b0 := beq_eq_false_iff_ne.mpr c74; have c74b1 := bne_iff_ne.mpr c74; simp only [Option.some.injEq, Prod.mk.injEq] at H; obtain ⟨rfl, rfl⟩ := H
   as_aux_lemma =>
    go_wp2
    go_ret2
    exact ⟨_, ew, ra HO_4.out, bw⟩

end Go.Proofs.YtihabmcaplnbcaaDoor.Fn
set_option linter.unusedVariables false
namespace Go.Proofs.YtihabmcaplnbcaaDoor.Pl
open Go.RowKit Go.Proofs.YtihabmcaplnbcaaDoorW.PrintWords Go.Proofs.YtihabmcaplnbcaaDoor.Fn

/-! Layer 12: tokens, by one machine over lists of bytes; the document's Scan is this machine. -/
inductive Sc where
 | out
 | atom (w : Bytes)
 | quot (w : Bytes) (b : Bool)
 | comm (d : Nat) (b : Bool)
abbrev Tok := Int × Bytes
def whiteB (c : UInt8) : Bool := c == 32 || c == 9
def foldAt : Bytes → Bool
 | a :: b :: c :: _ => a == 13 && b == 10 && whiteB c
 | _ => false
def signB (c : UInt8) : Bool := (⟨#[60, 62, 58, 59, 64, 44, 46]⟩ : ByteArray).data.toList.contains c
def stepOut (acc : List Tok) (c : UInt8) (l : Bytes) : (List Tok × Sc × Bytes) ⊕ Int :=
 if foldAt (c :: l) = true then .inl (acc, .out, l.tail)
 else if atomic c = true then .inl (acc, .atom [c], l)
 else if c = 34 then .inl (acc, .quot [] false, l)
 else if c = 40 then .inl (acc, .comm 1 false, l)
 else if signB c = true then .inl (acc ++ [(3, [c])], .out, l)
 else if whiteB c = true then .inl (acc, .out, l)
 else .inr 3
def commAfter (acc : List Tok) (d : Nat) (l : Bytes) : (List Tok × Sc × Bytes) ⊕ Int :=
 if 16 < d then .inr 1 else if d = 0 then .inl (acc, .out, l) else .inl (acc, .comm d false, l)
def step (acc : List Tok) (st : Sc) (c : UInt8) (l : Bytes) : (List Tok × Sc × Bytes) ⊕ Int :=
 match st with
 | .out => stepOut acc c l
 | .atom w => if atomic c = true then .inl (acc, .atom (w ++ [c]), l) else stepOut (acc ++ [(1, w)]) c l
 | .quot w true => if text c = true then .inl (acc, .quot (w ++ [c]) false, l) else .inr 3
 | .comm d true => if text c = true then .inl (acc, .comm d false, l) else .inr 3
 | .quot w false =>
  if foldAt (c :: l) = true then .inl (acc, .quot w false, l.tail)
  else if c = 92 then .inl (acc, .quot w true, l)
  else if text c = true then (if c = 34 then .inl (acc ++ [(2, w)], .out, l) else .inl (acc, .quot (w ++ [c]) false, l))
  else .inr 3
 | .comm d false =>
  if foldAt (c :: l) = true then .inl (acc, .comm d false, l.tail)
  else if c = 92 then .inl (acc, .comm d true, l)
  else if text c = true then commAfter acc (if c = 40 then d + 1 else if c = 41 then d - 1 else d) l
  else .inr 3
def endOf (acc : List Tok) : Sc → List Tok × Int
 | .out => (acc, 0)
 | .atom w => (acc ++ [(1, w)], 0)
 | _ => ([], 9)
def scan : Nat → List Tok → Sc → Bytes → List Tok × Int
 | _, acc, st, [] => endOf acc st
 | 0, _, _, _ :: _ => ([], 7)
 | k + 1, acc, st, c :: l => match step acc st c l with
  | .inl (acc', st', l') => scan k acc' st' l'
  | .inr e => ([], e)
theorem stepOut_le {acc : List Tok} {c : UInt8} {l : Bytes} {a : List Tok} {s : Sc} {r : Bytes} (h : stepOut acc c l = .inl (a, s, r)) : r.length ≤ l.length := by
 unfold stepOut at h
 repeat' split at h
 all_goals (first | (cases h; done) | (simp only [Sum.inl.injEq, Prod.mk.injEq] at h; obtain ⟨_, _, rfl⟩ := h; simp))
theorem step_le {acc : List Tok} {st : Sc} {c : UInt8} {l : Bytes} {a : List Tok} {s : Sc} {r : Bytes} (h : step acc st c l = .inl (a, s, r)) : r.length ≤ l.length := by
 unfold step commAfter at h
 repeat' split at h
 all_goals (first | exact stepOut_le h | (cases h; done) | (simp only [Sum.inl.injEq, Prod.mk.injEq] at h; obtain ⟨_, _, rfl⟩ := h; simp))
theorem scan_more : ∀ (k : Nat) (acc : List Tok) (st : Sc) (l : Bytes), l.length ≤ k → scan k acc st l = scan (k + 1) acc st l
 | k, acc, st, [], _ => by cases k <;> rfl
 | 0, acc, st, c :: l, h => by simp at h
 | k + 1, acc, st, c :: l, h => by
  rw [scan, scan]
  cases hs : step acc st c l with
  | inr e => rfl
  | inl x =>
   obtain ⟨a, s, r⟩ := x
   have := step_le hs
   simp only [List.length_cons] at h
   exact scan_more k a s r (by omega)
def scanL (acc : List Tok) (st : Sc) (l : Bytes) : List Tok × Int := scan l.length acc st l
theorem scan_enough (k : Nat) (acc : List Tok) (st : Sc) (l : Bytes) (h : l.length ≤ k) : scan k acc st l = scanL acc st l := by
 unfold scanL
 obtain ⟨d, rfl⟩ : ∃ d, k = l.length + d := ⟨k - l.length, by omega⟩
 clear h
 induction d with
 | zero => rfl
 | succ d ih => rw [← Nat.add_assoc, ← scan_more _ _ _ _ (by omega)]; exact ih
theorem scanL_nil (acc : List Tok) (st : Sc) : scanL acc st [] = endOf acc st := rfl
theorem scanL_cons (acc : List Tok) (st : Sc) (c : UInt8) (l : Bytes) : scanL acc st (c :: l) = match step acc st c l with
  | .inl (acc', st', l') => scanL acc' st' l'
  | .inr e => ([], e) := by
 rw [scanL, List.length_cons, scan]
 cases hs : step acc st c l with
 | inr e => rfl
 | inl x =>
  obtain ⟨a, s, r⟩ := x
  exact scan_enough _ _ _ _ (step_le hs)

/-! The document's Scan -/
def tok148 (t : Tok) : S113 := ⟨t.1, str t.2⟩
def wOf : Sc → Bytes
 | .atom w => w
 | .quot w _ => w
 | _ => []
def whereOf : Sc → Int
 | .out => 0
 | .atom _ => 1
 | .quot _ _ => 2
 | .comm _ _ => 3
def behindOf : Sc → Bool
 | .quot _ b => b
 | .comm _ b => b
 | _ => false
def deepOk (d : Int) : Sc → Prop
 | .comm n _ => d = n ∧ 1 ≤ n ∧ n ≤ 16
 | _ => 0 ≤ d ∧ d ≤ 16
set_option maxRecDepth 100000 in
theorem refsign_at (c : UInt8) : bulletinref12_among.f 20 (c.toNat : Int) (⟨#[60, 62, 58, 59, 64, 44, 46]⟩ : ByteArray) = some (signB c) := forall_byte (p := fun c => bulletinref12_among.f 20 (c.toNat : Int) (⟨#[60, 62, 58, 59, 64, 44, 46]⟩ : ByteArray) = some (signB c)) (by decide +kernel) c
theorem refsign_is (c : UInt8) (k : Nat) (hk : 20 ≤ k) : bulletinref12_among.f k (c.toNat : Int) (⟨#[60, 62, 58, 59, 64, 44, 46]⟩ : ByteArray) = some (signB c) := mono_up (fun k => bulletinref12_among.mono _ _ k) (refsign_at c) k hk
theorem byte_ofNat (c : UInt8) (n : Nat) (h : n < 256) : ((c.toNat : Int) = ((n : Nat) : Int)) ↔ c = UInt8.ofNat n := by rw [byte_eq c n h]
theorem beq_byte (c : UInt8) (n : Nat) (h : n < 256) : ((c.toNat : Int) == ((n : Nat) : Int)) = (c == UInt8.ofNat n) := by
 rw [Bool.eq_iff_iff, beq_iff_eq, beq_iff_eq, byte_ofNat c n h]
theorem refScan_fold (s : ByteArray) (hs : s.size ≤ 1000000) (i : Nat) (c : UInt8) (l : Bytes) (hd : (bs s).drop i = c :: l) (k : Nat) (X4 : List S113) (X5 : ByteArray) (X6 X7 : Int) (X8 : Bool) :
  bulletinref12_Scan.j2 (k + 1) s X4 X5 X6 X7 X8 (i : Int) (c.toNat : Int) = bulletinref12_Scan.j3 k s X4 X5 X6 X7 X8 (i : Int) (c.toNat : Int) (foldAt (c :: l)) := by
 obtain ⟨h1, h2, h3, h4⟩ := drop_cons hd
 have h5 : i < s.size := by rw [bs_length] at h1; exact h1
 have e1 : wrap64 ((i : Int) + 1) = ((i + 1 : Nat) : Int) := wrap_succ i (by omega)
 have e2 : wrap64 ((i : Int) + 2) = ((i + 2 : Nat) : Int) := by rw [wrap_id (by omega) (by omega)]; omega
 have hlen : l.length = s.size - (i + 1) := by rw [← h3, List.length_drop, bs_length]
 rw [bulletinref12_Scan.j2, e1, e2]
 by_cases c13 : c = 13
 ·rw [if_pos (by rw [c13]; rfl)]
  cases l with
  | nil => 
   simp only [List.length_nil] at hlen
   rw [if_neg (by omega)]; rfl
  | cons b l =>
   cases l with
   | nil =>
    simp only [List.length_cons, List.length_nil] at hlen
    rw [if_neg (by omega)]; rfl
   | cons e l =>
    simp only [List.length_cons] at hlen
    obtain ⟨g1, g2, g3, g4⟩ := drop_cons h3
    rw [if_pos (by omega), if_pos (by omega), if_pos (by omega), bt_drop h3, bt_drop g3]
    by_cases b10 : b = 10
    ·rw [if_pos (by rw [b10]; rfl), if_pos (by omega)]
     by_cases e32 : e = 32
     ·rw [if_pos (by rw [e32]; rfl), c13, b10, e32]; rfl
     rw [if_neg (c := (e.toNat : Int) = 32) (fun h => e32 ((byte_ofNat e 32 (by decide)).1 h)), show ((e.toNat : Int) == 9) = (e == 9) from beq_byte e 9 (by decide), c13, b10]
     have : foldAt (13 :: 10 :: e :: l) = (e == 9) := by
      simp only [foldAt, whiteB]
      simp [e32]
     rw [this]
    rw [if_neg (c := (b.toNat : Int) = 10) (fun h => b10 ((byte_ofNat b 10 (by decide)).1 h))]
    have : foldAt (c :: b :: e :: l) = false := by
     simp only [foldAt]
     simp [b10]
    rw [this]
 rw [if_neg (c := (c.toNat : Int) = 13) (fun h => c13 ((byte_ofNat c 13 (by decide)).1 h))]
 have : foldAt (c :: l) = false := by
  cases l with
  | nil => rfl
  | cons b l =>
   cases l with
   | nil => rfl
   | cons e l =>
    simp only [foldAt]
    simp [c13]
 rw [this]
def res148 (acc : List Tok) (st : Sc) (r : Bytes) : List S113 × Int := ((scanL acc st r).1.map tok148, (scanL acc st r).2)
theorem res_inl {acc : List Tok} {st : Sc} {c : UInt8} {l : Bytes} {a : List Tok} {t : Sc} {r : Bytes} (h : step acc st c l = .inl (a, t, r)) : res148 acc st (c :: l) = res148 a t r := by
 unfold res148
 rw [scanL_cons, h]
theorem res_inr {acc : List Tok} {st : Sc} {c : UInt8} {l : Bytes} {e : Int} (h : step acc st c l = .inr e) : res148 acc st (c :: l) = ([], e) := by
 unfold res148
 rw [scanL_cons, h]
 rfl
def Behind (s : ByteArray) (k m : Nat) : Prop := ∀ (acc : List Tok) (st : Sc) (d : Int) (r : Bytes) (j : Nat), r.length ≤ m → (bs s).drop j = r → j ≤ (bs s).length → deepOk d st → acc.length ≤ 2 * j → (wOf st).length ≤ j →
 bulletinref12_Scan.l0 k s (acc.map tok148) (str (wOf st)) (whereOf st) d (behindOf st) (j : Int) = some (res148 acc st r)
theorem tail_drop {s : ByteArray} {i : Nat} {c : UInt8} {l : Bytes} (hd : (bs s).drop i = c :: l) (hf : foldAt (c :: l) = true) : (bs s).drop (i + 2) = l.tail ∧ i + 2 ≤ (bs s).length ∧ l.tail.length ≤ l.length := by
 obtain ⟨h1, h2, h3, h4⟩ := drop_cons hd
 cases l with
 | nil => cases hf
 | cons b l =>
  obtain ⟨g1, g2, g3, g4⟩ := drop_cons h3
  exact ⟨g3, by omega, by simp⟩
theorem refScan_out (s : ByteArray) (hs : s.size ≤ 1000000) (i : Nat) (c : UInt8) (l : Bytes) (hd : (bs s).drop i = c :: l) (k : Nat) (hk : 20 ≤ k) (acc : List Tok) (d : Int) (hdp : 0 ≤ d ∧ d ≤ 16) (hacc : acc.length ≤ 2 * i + 1)
  (B0 : Behind s (k + 2) l.length) (B : Behind s k l.length) :
  bulletinref12_Scan.j2 (k + 4) s (acc.map tok148) (str []) 0 d false (i : Int) (c.toNat : Int) = some (match stepOut acc c l with | .inl (a, t, r) => res148 a t r | .inr e => ([], e)) := by
 obtain ⟨h1, h2, h3, h4⟩ := drop_cons hd
 have h5 : i < s.size := by rw [bs_length] at h1; exact h1
 have e1 : wrap64 ((i : Int) + 1) = ((i + 1 : Nat) : Int) := wrap_succ i (by omega)
 have e2 : wrap64 (wrap64 ((i : Int) + 1) + 1) = ((i + 2 : Nat) : Int) := by rw [e1, wrap_succ (i + 1) (by omega)]
 rw [refScan_fold s hs i c l hd]
 cases hf : foldAt (c :: l) with
 | true =>
  obtain ⟨t1, t2, t3⟩ := tail_drop hd hf
  have hr : stepOut acc c l = .inl (acc, .out, l.tail) := by simp [stepOut, hf]
  rw [hr, bulletinref12_Scan.j3, if_pos rfl, e2]
  exact B0 acc .out d l.tail (i + 2) t3 t1 t2 hdp (by omega) (by simp [wOf])
 | false =>
  rw [bulletinref12_Scan.j3, if_neg (by decide), if_neg (by decide), show ((0 : Int) == 3) = false from rfl, bulletinref12_Scan.j4, if_neg (by decide), bulletinref12_Scan.j5, if_neg (by decide), if_neg (by decide), refatomic_is c k hk, Option.bind_some]
  cases ha : atomic c with
  | true =>
   have hr : stepOut acc c l = .inl (acc, .atom [c], l) := by simp [stepOut, hf, ha]
   rw [hr, if_pos rfl, if_pos (by omega), e1, if_pos (by omega), if_pos (by omega)]
   simp only [Int.toNat_natCast]
   rw [extract_one hd, str_app, if_pos (by rw [str_size, str_size]; simp)]
   exact B acc (.atom [c]) d l (i + 1) (Nat.le_refl _) h3 (by omega) hdp (by omega) (by simp [wOf])
  | false =>
   rw [if_neg (c := false = true) (by decide)]
   by_cases c34 : c = 34
   ·have hr : stepOut acc c l = .inl (acc, .quot [] false, l) := by
     unfold stepOut
     rw [hf, ha, if_neg (by decide), if_neg (by decide), if_pos c34]
    rw [hr, if_pos (by rw [c34]; rfl), e1]
    exact B acc (.quot [] false) d l (i + 1) (Nat.le_refl _) h3 (by omega) hdp (by omega) (by simp [wOf])
   rw [if_neg (c := (c.toNat : Int) = 34) (fun h => c34 ((byte_ofNat c 34 (by decide)).1 h))]
   by_cases c40 : c = 40
   ·have hr : stepOut acc c l = .inl (acc, .comm 1 false, l) := by
     unfold stepOut
     rw [hf, ha, if_neg (by decide), if_neg (by decide), if_neg c34, if_pos c40]
    rw [hr, if_pos (by rw [c40]; rfl), e1]
    exact B acc (.comm 1 false) 1 l (i + 1) (Nat.le_refl _) h3 (by omega) ⟨rfl, by decide, by decide⟩ (by omega) (by simp [wOf])
   rw [if_neg (c := (c.toNat : Int) = 40) (fun h => c40 ((byte_ofNat c 40 (by decide)).1 h)), refsign_is c k hk, Option.bind_some]
   cases hsg : signB c with
   | true =>
    have hr : stepOut acc c l = .inl (acc ++ [(3, [c])], .out, l) := by
     unfold stepOut
     rw [hf, ha, hsg, if_neg (by decide), if_neg (by decide), if_neg c34, if_neg c40, if_pos rfl]
    rw [hr, if_pos rfl, if_pos (by omega), e1, if_pos (by omega), if_pos (by omega), if_pos (by rw [List.length_map]; omega)]
    simp only [Int.toNat_natCast]
    rw [extract_one hd, show acc.map tok148 ++ [(⟨3, str [c]⟩ : S113)] = (acc ++ [(3, [c])]).map tok148 by simp [tok148]]
    exact B (acc ++ [(3, [c])]) .out d l (i + 1) (Nat.le_refl _) h3 (by omega) hdp (by simp; omega) (by simp [wOf])
   | false =>
    rw [if_neg (c := false = true) (by decide)]
    have hrw : whiteB c = true → stepOut acc c l = .inl (acc, .out, l) := by
     intro hw
     unfold stepOut
     rw [hf, ha, hsg, hw, if_neg (by decide), if_neg (by decide), if_neg c34, if_neg c40, if_neg (by decide), if_pos rfl]
    by_cases c32 : c = 32
    ·rw [hrw (by rw [c32]; rfl), if_pos (by rw [c32]; rfl), e1]
     exact B acc .out d l (i + 1) (Nat.le_refl _) h3 (by omega) hdp (by omega) (by simp [wOf])
    rw [if_neg (c := (c.toNat : Int) = 32) (fun h => c32 ((byte_ofNat c 32 (by decide)).1 h))]
    by_cases c9 : c = 9
    ·rw [hrw (by rw [c9]; rfl), if_pos (by rw [c9]; rfl), e1]
     exact B acc .out d l (i + 1) (Nat.le_refl _) h3 (by omega) hdp (by omega) (by simp [wOf])
    have hw : whiteB c = false := by unfold whiteB; simp [c32, c9]
    have hr : stepOut acc c l = .inr 3 := by
     unfold stepOut
     rw [hf, ha, hsg, hw, if_neg (by decide), if_neg (by decide), if_neg c34, if_neg c40, if_neg (by decide), if_neg (by decide)]
    rw [hr, if_neg (c := (c.toNat : Int) = 9) (fun h => c9 ((byte_ofNat c 9 (by decide)).1 h))]
theorem refScan_l0 (s : ByteArray) (hs : s.size ≤ 1000000) : ∀ (n k : Nat), 9 * n + 40 ≤ k → Behind s k n
 | n, k, hk, acc, st, d, [], i, hn, hd, hi, hdp, ha, hw => by
  obtain ⟨k, rfl⟩ : ∃ j, k = j + 1 := ⟨k - 1, by omega⟩
  have := drop_nil hd
  rw [bs_length] at this hi
  rw [bulletinref12_Scan.l0, if_neg (by omega)]
  unfold res148
  rw [scanL_nil]
  cases st with
  | out => rw [if_neg (by simp [whereOf]), if_neg (by simp [whereOf])]; rfl
  | atom w =>
   rw [show whereOf (.atom w) = 1 from rfl, show wOf (.atom w) = w from rfl, if_neg (by decide), if_pos rfl, if_pos (by rw [List.length_map]; omega)]
   simp [endOf, tok148]
  | quot w b => rw [if_pos (by simp [whereOf])]; rfl
  | comm m b => rw [if_pos (by simp [whereOf])]; rfl
 | 0, k, hk, acc, st, d, c :: l, i, hn, hd, hi, hdp, ha, hw => by simp at hn
 | n + 1, k, hk, acc, st, d, c :: l, i, hn, hd, hi, hdp, ha, hw => by
  obtain ⟨k, rfl⟩ : ∃ j, k = j + 9 := ⟨k - 9, by omega⟩
  obtain ⟨h1, h2, h3, h4⟩ := drop_cons hd
  have h5 : i < s.size := by rw [bs_length] at h1; exact h1
  simp only [List.length_cons] at hn
  have H : ∀ k', k ≤ k' → Behind s k' l.length := fun k' hk' acc st d r j hr => refScan_l0 s hs n k' (by omega) acc st d r j (by omega)
  have e1 : wrap64 ((i : Int) + 1) = ((i + 1 : Nat) : Int) := wrap_succ i (by omega)
  have e2 : wrap64 (wrap64 ((i : Int) + 1) + 1) = ((i + 2 : Nat) : Int) := by rw [e1, wrap_succ (i + 1) (by omega)]
  have hx : (wOf st ++ [c]).length ≤ i + 1 := by simp; omega
  have res : ∀ {X : (List Tok × Sc × Bytes) ⊕ Int}, step acc st c l = X → res148 acc st (c :: l) = match X with | .inl (a, t, r) => res148 a t r | .inr e => ([], e) := by
   intro X hX
   subst hX
   cases hq : step acc st c l with
   | inl y => obtain ⟨a, t, r⟩ := y; exact res_inl hq
   | inr e => exact res_inr hq
  rw [bulletinref12_Scan.l0, if_pos (by omega), if_pos (by omega)]
  cases st with
  | out =>
   rw [show whereOf .out = 0 from rfl, show behindOf .out = false from rfl, show wOf .out = [] from rfl, if_neg (by decide), if_neg (by decide), bt_drop hd, bulletinref12_Scan.j1, if_neg (by decide)]
   rw [res (X := stepOut acc c l) rfl]
   exact refScan_out s hs i c l hd (k + 3) (by omega) acc d hdp (by omega) (H _ (by omega)) (H _ (by omega))
  | atom w =>
   rw [show whereOf (.atom w) = 1 from rfl, show behindOf (.atom w) = false from rfl, show wOf (.atom w) = w from rfl, if_neg (by decide), if_pos rfl, bt_drop hd, refatomic_is c _ (by omega), Option.bind_some]
   cases hat : atomic c with
   | true =>
    have hf : foldAt (c :: l) = false := by
     have : c ≠ 13 := fun h => by rw [h] at hat; exact absurd hat (by decide +kernel)
     cases l with
     | nil => rfl
     | cons b l =>
      cases l with
      | nil => rfl
      | cons e l => simp only [foldAt]; simp [this]
    rw [bulletinref12_Scan.j1, if_neg (by decide), refScan_fold s hs i c l hd, hf, bulletinref12_Scan.j3, if_neg (by decide), if_neg (by decide), show ((1 : Int) == 3) = false from rfl, bulletinref12_Scan.j4, if_neg (by decide), bulletinref12_Scan.j5, if_neg (by decide), if_neg (by decide), refatomic_is c _ (by omega), Option.bind_some, hat, if_pos rfl, if_pos (by omega), e1, if_pos (by omega), if_pos (by omega)]
    simp only [Int.toNat_natCast]
    rw [extract_one hd, str_app, if_pos (by rw [str_size, str_size]; simp [wOf] at hw ⊢; omega)]
    rw [res (X := .inl (acc, .atom (w ++ [c]), l)) (by simp [step, hat])]
    exact H (k + 3) (by omega) acc (.atom (w ++ [c])) d l (i + 1) (Nat.le_refl _) h3 (by omega) hdp (by omega) (by simpa [wOf] using hx)
   | false =>
    rw [bulletinref12_Scan.j1, show (!false) = true from rfl, if_pos rfl, if_pos (by rw [List.length_map]; omega), show acc.map tok148 ++ [(⟨1, str w⟩ : S113)] = (acc ++ [(1, w)]).map tok148 by simp [tok148], show (⟨#[]⟩ : ByteArray) = str [] from rfl]
    rw [res (X := stepOut (acc ++ [(1, w)]) c l) (by simp [step, hat])]
    exact refScan_out s hs i c l hd (k + 3) (by omega) (acc ++ [(1, w)]) d hdp (by simp; omega) (H _ (by omega)) (H _ (by omega))
  | quot w b =>
   cases b with
   | true =>
    rw [show whereOf (.quot w true) = 2 from rfl, show behindOf (.quot w true) = true from rfl, show wOf (.quot w true) = w from rfl, if_pos rfl, bt_drop hd, reftext_is, Option.bind_some]
    cases ht : text c with
    | true =>
     rw [if_pos rfl, if_pos rfl, e1, if_pos (by omega), if_pos (by omega)]
     simp only [Int.toNat_natCast]
     rw [extract_one hd, str_app, if_pos (by rw [str_size, str_size]; simp [wOf] at hw ⊢; omega)]
     rw [res (X := .inl (acc, .quot (w ++ [c]) false, l)) (by simp [step, ht])]
     exact H (k + 8) (by omega) acc (.quot (w ++ [c]) false) d l (i + 1) (Nat.le_refl _) h3 (by omega) hdp (by omega) (by simpa [wOf] using hx)
    | false =>
     rw [if_neg (by decide), res (X := .inr 3) (by simp [step, ht])]
   | false =>
    rw [show whereOf (.quot w false) = 2 from rfl, show behindOf (.quot w false) = false from rfl, show wOf (.quot w false) = w from rfl, if_neg (by decide), if_neg (by decide), bt_drop hd, bulletinref12_Scan.j1, if_neg (by decide), refScan_fold s hs i c l hd]
    cases hf : foldAt (c :: l) with
    | true =>
     obtain ⟨t1, t2, t3⟩ := tail_drop hd hf
     rw [bulletinref12_Scan.j3, if_pos rfl, e2, res (X := .inl (acc, .quot w false, l.tail)) (by simp [step, hf])]
     exact H (k + 5) (by omega) acc (.quot w false) d l.tail (i + 2) t3 t1 t2 hdp (by omega) (by simp [wOf] at hw ⊢; omega)
    | false =>
     rw [bulletinref12_Scan.j3, if_neg (by decide), if_pos rfl, bulletinref12_Scan.j4, if_pos rfl]
     by_cases c92 : c = 92
     ·rw [if_pos (by rw [c92]; rfl), e1, res (X := .inl (acc, .quot w true, l)) (by unfold step; simp only []; rw [hf, if_neg (by decide), if_pos c92])]
      exact H (k + 4) (by omega) acc (.quot w true) d l (i + 1) (Nat.le_refl _) h3 (by omega) hdp (by omega) (by simp [wOf] at hw ⊢; omega)
     rw [if_neg (c := (c.toNat : Int) = 92) (fun h => c92 ((byte_ofNat c 92 (by decide)).1 h)), reftext_is, Option.bind_some]
     cases ht : text c with
     | false =>
      rw [if_neg (by decide), res (X := .inr 3) (by unfold step; simp only []; rw [hf, ht, if_neg (by decide), if_neg c92, if_neg (by decide)])]
     | true =>
      rw [if_pos rfl, bulletinref12_Scan.j5, if_pos rfl]
      by_cases c34 : c = 34
      ·rw [if_pos (by rw [c34]; rfl), if_pos (by rw [List.length_map]; omega), e1, show acc.map tok148 ++ [(⟨2, str w⟩ : S113)] = (acc ++ [(2, w)]).map tok148 by simp [tok148], show (⟨#[]⟩ : ByteArray) = str [] from rfl]
       rw [res (X := .inl (acc ++ [(2, w)], .out, l)) (by unfold step; simp only []; rw [hf, ht, if_neg (by decide), if_neg c92, if_pos rfl, if_pos c34])]
       exact H (k + 3) (by omega) (acc ++ [(2, w)]) .out d l (i + 1) (Nat.le_refl _) h3 (by omega) hdp (by simp; omega) (by simp [wOf])
      rw [if_neg (c := (c.toNat : Int) = 34) (fun h => c34 ((byte_ofNat c 34 (by decide)).1 h)), if_pos (by omega), e1, if_pos (by omega), if_pos (by omega)]
      simp only [Int.toNat_natCast]
      rw [extract_one hd, str_app, if_pos (by rw [str_size, str_size]; simp [wOf] at hw ⊢; omega)]
      rw [res (X := .inl (acc, .quot (w ++ [c]) false, l)) (by unfold step; simp only []; rw [hf, ht, if_neg (by decide), if_neg c92, if_pos rfl, if_neg c34])]
      exact H (k + 3) (by omega) acc (.quot (w ++ [c]) false) d l (i + 1) (Nat.le_refl _) h3 (by omega) hdp (by omega) (by simpa [wOf] using hx)
  | comm m b =>
   obtain ⟨hm, hm1, hm2⟩ := hdp
   subst hm
   cases b with
   | true =>
    rw [show whereOf (.comm m true) = 3 from rfl, show behindOf (.comm m true) = true from rfl, show wOf (.comm m true) = [] from rfl, if_pos rfl, bt_drop hd, reftext_is, Option.bind_some]
    cases ht : text c with
    | true =>
     rw [if_pos rfl, if_neg (by decide), e1, res (X := .inl (acc, .comm m false, l)) (by simp [step, ht])]
     exact H (k + 8) (by omega) acc (.comm m false) m l (i + 1) (Nat.le_refl _) h3 (by omega) ⟨rfl, hm1, hm2⟩ (by omega) (by simp [wOf])
    | false => rw [if_neg (by decide), res (X := .inr 3) (by simp [step, ht])]
   | false =>
    rw [show whereOf (.comm m false) = 3 from rfl, show behindOf (.comm m false) = false from rfl, show wOf (.comm m false) = [] from rfl, if_neg (by decide), if_neg (by decide), bt_drop hd, bulletinref12_Scan.j1, if_neg (by decide), refScan_fold s hs i c l hd]
    cases hf : foldAt (c :: l) with
    | true =>
     obtain ⟨t1, t2, t3⟩ := tail_drop hd hf
     rw [bulletinref12_Scan.j3, if_pos rfl, e2, res (X := .inl (acc, .comm m false, l.tail)) (by simp [step, hf])]
     exact H (k + 5) (by omega) acc (.comm m false) m l.tail (i + 2) t3 t1 t2 ⟨rfl, hm1, hm2⟩ (by omega) (by simp [wOf])
    | false =>
     rw [bulletinref12_Scan.j3, if_neg (by decide), if_neg (by decide), show ((3 : Int) == 3) = true from rfl, bulletinref12_Scan.j4, if_pos rfl]
     by_cases c92 : c = 92
     ·rw [if_pos (by rw [c92]; rfl), e1, res (X := .inl (acc, .comm m true, l)) (by unfold step; simp only []; rw [hf, if_neg (by decide), if_pos c92])]
      exact H (k + 4) (by omega) acc (.comm m true) m l (i + 1) (Nat.le_refl _) h3 (by omega) ⟨rfl, hm1, hm2⟩ (by omega) (by simp [wOf])
     rw [if_neg (c := (c.toNat : Int) = 92) (fun h => c92 ((byte_ofNat c 92 (by decide)).1 h)), reftext_is, Option.bind_some]
     cases ht : text c with
     | false =>
      rw [if_neg (by decide), res (X := .inr 3) (by unfold step; simp only []; rw [hf, ht, if_neg (by decide), if_neg c92, if_neg (by decide)])]
     | true =>
      rw [if_pos rfl, bulletinref12_Scan.j5, if_neg (by decide), if_pos rfl]
      -- the depth behind this sign
      have fin : ∀ (m' : Nat), m' ≤ 17 → bulletinref12_Scan.j7 (k + 2) s (acc.map tok148) (str []) 3 (m' : Int) false (i : Int) = some (match commAfter acc m' l with | .inl (a, t, r) => res148 a t r | .inr e => ([], e)) := by
       intro m' hm'
       unfold commAfter
       rw [bulletinref12_Scan.j7]
       by_cases g : 16 < m'
       ·rw [if_pos (by omega), if_pos g]
       rw [if_neg (by omega), if_neg g]
       by_cases g0 : m' = 0
       ·rw [if_pos (by omega), if_pos g0, e1, g0]
        exact H (k + 1) (by omega) acc .out 0 l (i + 1) (Nat.le_refl _) h3 (by omega) ⟨by decide, by decide⟩ (by omega) (by simp [wOf])
       rw [if_neg (by omega), if_neg g0, e1]
       exact H (k + 1) (by omega) acc (.comm m' false) m' l (i + 1) (Nat.le_refl _) h3 (by omega) ⟨rfl, by omega, by omega⟩ (by omega) (by simp [wOf])
      by_cases c40 : c = 40
      ·rw [if_pos (by rw [c40]; rfl), bulletinref12_Scan.j6, if_neg (c := (c.toNat : Int) = 41) (fun h => by rw [c40] at h; exact absurd h (by decide)), wrap_id (by omega) (by omega), show ((m : Int) + 1) = ((m + 1 : Nat) : Int) by omega, fin (m + 1) (by omega)]
       rw [res (X := commAfter acc (m + 1) l) (by unfold step; simp only []; rw [hf, ht, if_neg (by decide), if_neg c92, if_pos rfl, if_pos c40])]
      rw [if_neg (c := (c.toNat : Int) = 40) (fun h => c40 ((byte_ofNat c 40 (by decide)).1 h)), bulletinref12_Scan.j6]
      by_cases c41 : c = 41
      ·rw [if_pos (by rw [c41]; rfl), wrap_id (by omega) (by omega), show ((m : Int) - 1) = ((m - 1 : Nat) : Int) by omega, fin (m - 1) (by omega)]
       rw [res (X := commAfter acc (m - 1) l) (by unfold step; simp only []; rw [hf, ht, if_neg (by decide), if_neg c92, if_pos rfl, if_neg c40, if_pos c41])]
      rw [if_neg (c := (c.toNat : Int) = 41) (fun h => c41 ((byte_ofNat c 41 (by decide)).1 h)), fin m (by omega)]
      rw [res (X := commAfter acc m l) (by unfold step; simp only []; rw [hf, ht, if_neg (by decide), if_neg c92, if_pos rfl, if_neg c40, if_neg c41])]
theorem refScan_is (s : ByteArray) (hs : s.size ≤ 1000000) (k : Nat) (hk : 9 * s.size + 40 ≤ k) : bulletinref12_Scan.f k s = some (res148 [] .out (bs s)) := by
 have := refScan_l0 s hs (bs s).length k (by rw [bs_length]; exact hk) [] .out 0 (bs s) 0 (Nat.le_refl _) (by simp) (by omega) ⟨by decide, by decide⟩ (by simp) (by simp [wOf])
 unfold bulletinref12_Scan.f
 exact this
end Go.Proofs.YtihabmcaplnbcaaDoor.Pl
namespace Go.Proofs.YtihabmcaplnbcaaDoor.Fn
open Go.RowKit Go.Proofs.YtihabmcaplnbcaaDoorW.PrintWords Go.Proofs.YtihabmcaplnbcaaDoorW.PrintLast Go.Proofs.YtihabmcaplnbcaaDoorW.PrintMore
attribute [local go_sem] max2_int min2_int max_two min_two max_three min_three max_four min_four
set_option linter.unusedVariables false
set_option linter.unusedSimpArgs false
def lex_escaped.f (a0 : ByteArray) : Option (Int) := if a0.toList = ([] : List UInt8) then (some 9) else (if 0 < (a0.size : Int) then ((lex_text.f (bt a0 0)).bind fun t133 => (if t133 = true then (some 0) else (some 3))) else (none))
set_option maxHeartbeats 8000000 in
set_option maxRecDepth 100000 in
theorem lex_escaped.calls (a0 : ByteArray) (r : Int) (w : World) (h : lex_escaped.f a0 = some r) :
  Calls Tryd.prog 140 #[.string a0] w fun e w' => e = .returned (.int .i64 r) ∧ Drawn0 w w' := by
 have H : (if a0.toList = ([] : List UInt8) then (some 9) else (if 0 < (a0.size : Int) then ((lex_text.f (bt a0 0)).bind fun t133 => (if t133 = true then (some 0) else (some 3))) else (none))) = some r := h; clear h
 by_cases c2 : a0.toList = ([] : List UInt8)
 ·rw [if_pos c2] at H; have c2b0 := beq_iff_eq.mpr c2; have c2b1 := bne_eq_false_iff_eq.mpr c2; clear c2; obtain rfl := Option.some.inj H
  go_enter Tryd.func140, Tryd.ntmps140
  go_wp2
  go_ret
  exact ⟨cl, d0⟩
 rw [if_neg c2] at H; have c2b0 := beq_eq_false_iff_ne.mpr c2; have c2b1 := bne_iff_ne.mpr c2
 by_cases c3 : 0 < (a0.size : Int)
 ·rw [if_pos c3] at H; have c3b0 := decide_eq_true c3; have c3b1 : decide (0 < a0.size) = true := decide_eq_true (by omega); clear c3; replace H := Option.bind_eq_some_iff.mp H; obtain ⟨t133, A50, H⟩ := H; have A5 := Aside0.mk A50; clear A50
  by_cases c6 : t133 = true
  ·subst c6; rw [if_pos rfl] at H; obtain rfl := Option.some.inj H; have p4 : 0 ≤ (0 : Int) := (by omega)
   have q4 : 0 < a0.size := (by have : (0 : Int) < (a0.size : Int) := od; omega)
   have hx4 : ∀ h : 0 < a0.size, ((a0[0]'h).toNat : Int) = bt a0 0 := bt_at a0 0; clear p4; have qi4 : (0 < (a0.size : Int)) = True := eq_true (od); replace q4 := eq_true q4
   go_enter Tryd.func140, Tryd.ntmps140
   go_wp2_with (first | ((with_reducible refine gate_callee (f := 141) rfl ?_); refine goesL_ (some 9) rfl rfl Tryd.func141 (by kernel_rfl) rfl #[.int .u8 (bt a0 0)] rfl am ?_; (with_reducible refine (lex_text.calls (bt a0 0) true _ A5.out).mono ?_); rintro e w' ⟨rfl, ⟨nd, rfl⟩⟩; refine ⟨_, rfl, ?_⟩))
   go_ret
   exact ⟨cl, d0⟩
  replace c6 := Bool.eq_false_iff.mpr c6; subst c6; rw [if_neg nft] at H; obtain rfl := Option.some.inj H; have p4 : 0 ≤ (0 : Int) := (by omega)
  have q4 : 0 < a0.size := (by have : (0 : Int) < (a0.size : Int) := od; omega)
  have hx4 : ∀ h : 0 < a0.size, ((a0[0]'h).toNat : Int) = bt a0 0 := bt_at a0 0; clear p4; have qi4 : (0 < (a0.size : Int)) = True := eq_true (od); replace q4 := eq_true q4
  go_enter Tryd.func140, Tryd.ntmps140
  go_wp2_with (first | ((with_reducible refine gate_callee (f := 141) rfl ?_); refine goesL_ (some 9) rfl rfl Tryd.func141 (by kernel_rfl) rfl #[.int .u8 (bt a0 0)] rfl am ?_; (with_reducible refine (lex_text.calls (bt a0 0) false _ A5.out).mono ?_); rintro e w' ⟨rfl, ⟨nd, rfl⟩⟩; refine ⟨_, rfl, ?_⟩))
  go_ret
  exact ⟨cl, d0⟩
 rw [if_neg c3] at H; exact absurd H (by simp)

def lex_white.f (a0 : Int) : Option (Bool) := if a0 = 32 then (some true) else (some (a0 == 9))
set_option maxHeartbeats 8000000 in
set_option maxRecDepth 100000 in
theorem lex_white.calls (a0 : Int) (r : Bool) (w : World) (h : lex_white.f a0 = some r) :
  Calls Tryd.prog 111 #[.int .u8 a0] w fun e w' => e = .returned (.bool r) ∧ Drawn0 w w' := by
 have H : (if a0 = 32 then (some true) else (some (a0 == 9))) = some r := h; clear h
 by_cases c2 : a0 = 32
 ·rw [if_pos c2] at H; have c2b0 := beq_iff_eq.mpr c2; have c2b1 := bne_eq_false_iff_eq.mpr c2; clear c2; obtain rfl := Option.some.inj H
  go_enter Tryd.func111, Tryd.ntmps111
  go_wp2
  go_ret
  exact ⟨cl, d0⟩
 rw [if_neg c2] at H; have c2b0 := beq_eq_false_iff_ne.mpr c2; have c2b1 := bne_iff_ne.mpr c2; obtain rfl := Option.some.inj H
 go_enter Tryd.func111, Tryd.ntmps111
 go_wp2
 go_ret
 exact ⟨cl, d0⟩

def lex_fold.f (a0 : ByteArray) : Option (Bool) := if (a0.size : Int) > 2 then (if 0 < (a0.size : Int) then (if (bt a0 0) = 13 then (if 1 < (a0.size : Int) then (if (bt a0 1) = 10 then (if 2 < (a0.size : Int) then ((lex_white.f (bt a0 2)).bind fun t132 => (some t132)) else (none)) else (some false)) else (none)) else (some false)) else (none)) else (some false)
set_option maxHeartbeats 8000000 in
set_option maxRecDepth 100000 in
theorem lex_fold.calls (a0 : ByteArray) (r : Bool) (w : World) (h : lex_fold.f a0 = some r) :
  Calls Tryd.prog 112 #[.string a0] w fun e w' => e = .returned (.bool r) ∧ Drawn0 w w' := by
 have H : (if (a0.size : Int) > 2 then (if 0 < (a0.size : Int) then (if (bt a0 0) = 13 then (if 1 < (a0.size : Int) then (if (bt a0 1) = 10 then (if 2 < (a0.size : Int) then ((lex_white.f (bt a0 2)).bind fun t132 => (some t132)) else (none)) else (some false)) else (none)) else (some false)) else (none)) else (some false)) = some r := h; clear h
 by_cases c2 : (a0.size : Int) > 2
 ·rw [if_pos c2] at H; have c2b0 : decide (2 < (a0.size : Int)) = true := decide_eq_true c2; have c2b1 : decide (2 < a0.size) = true := decide_eq_true (by omega); clear c2
  by_cases c3 : 0 < (a0.size : Int)
  ·rw [if_pos c3] at H; have c3b0 := decide_eq_true c3; have c3b1 : decide (0 < a0.size) = true := decide_eq_true (by omega); clear c3
   by_cases c5 : (bt a0 0) = 13
   ·rw [if_pos c5] at H; have c5b0 := beq_iff_eq.mpr c5; have c5b1 := bne_eq_false_iff_eq.mpr c5; clear c5
    by_cases c6 : 1 < (a0.size : Int)
    ·rw [if_pos c6] at H; have c6b0 := decide_eq_true c6; have c6b1 : decide (1 < a0.size) = true := decide_eq_true (by omega); clear c6
     by_cases c8 : (bt a0 1) = 10
     ·rw [if_pos c8] at H; have c8b0 := beq_iff_eq.mpr c8; have c8b1 := bne_eq_false_iff_eq.mpr c8; clear c8
      by_cases c9 : 2 < (a0.size : Int)
      ·rw [if_pos c9] at H; have c9b0 := decide_eq_true c9; have c9b1 : decide (2 < a0.size) = true := decide_eq_true (by omega); clear c9; replace H := Option.bind_eq_some_iff.mp H; obtain ⟨t132, A110, H⟩ := H; have A11 := Aside0.mk A110; clear A110; obtain rfl := Option.some.inj H; have p4 : 0 ≤ (0 : Int) := (by omega)
       have q4 : 0 < a0.size := (by have : (0 : Int) < (a0.size : Int) := od; omega)
       have hx4 : ∀ h : 0 < a0.size, ((a0[0]'h).toNat : Int) = bt a0 0 := bt_at a0 0; clear p4; have qi4 : (0 < (a0.size : Int)) = True := eq_true (od); replace q4 := eq_true q4; have p7 : 0 ≤ (1 : Int) := (by omega)
       have q7 : 1 < a0.size := (by have : (1 : Int) < (a0.size : Int) := od; omega)
       have hx7 : ∀ h : 1 < a0.size, ((a0[1]'h).toNat : Int) = bt a0 1 := bt_at a0 1; clear p7; have qi7 : (1 < (a0.size : Int)) = True := eq_true (od); replace q7 := eq_true q7; have p10 : 0 ≤ (2 : Int) := (by omega)
       have q10 : 2 < a0.size := (by have : (2 : Int) < (a0.size : Int) := od; omega)
       have hx10 : ∀ h : 2 < a0.size, ((a0[2]'h).toNat : Int) = bt a0 2 := bt_at a0 2; clear p10; have qi10 : (2 < (a0.size : Int)) = True := eq_true (od); replace q10 := eq_true q10
       go_enter Tryd.func112, Tryd.ntmps112
       go_wp2_with (first | (go_at_call 111; (with_reducible refine (lex_white.calls (bt a0 2) t132 _ A11.out).mono ?_); rintro e w' ⟨rfl, ⟨nd, rfl⟩⟩))
       go_ret
       exact ⟨cl, d0⟩
      rw [if_neg c9] at H; exact absurd H (by simp)
     rw [if_neg c8] at H; have c8b0 := beq_eq_false_iff_ne.mpr c8; have c8b1 := bne_iff_ne.mpr c8; obtain rfl := Option.some.inj H; have p4 : 0 ≤ (0 : Int) := (by omega)
     have q4 : 0 < a0.size := (by have : (0 : Int) < (a0.size : Int) := od; omega)
     have hx4 : ∀ h : 0 < a0.size, ((a0[0]'h).toNat : Int) = bt a0 0 := bt_at a0 0; clear p4; have qi4 : (0 < (a0.size : Int)) = True := eq_true (od); replace q4 := eq_true q4; have p7 : 0 ≤ (1 : Int) := (by omega)
     have q7 : 1 < a0.size := (by have : (1 : Int) < (a0.size : Int) := od; omega)
     have hx7 : ∀ h : 1 < a0.size, ((a0[1]'h).toNat : Int) = bt a0 1 := bt_at a0 1; clear p7; have qi7 : (1 < (a0.size : Int)) = True := eq_true (od); replace q7 := eq_true q7
     go_enter Tryd.func112, Tryd.ntmps112
     go_wp2
     go_ret
     exact ⟨cl, d0⟩
    rw [if_neg c6] at H; exact absurd H (by simp)
   rw [if_neg c5] at H; have c5b0 := beq_eq_false_iff_ne.mpr c5; have c5b1 := bne_iff_ne.mpr c5; obtain rfl := Option.some.inj H; have p4 : 0 ≤ (0 : Int) := (by omega)
   have q4 : 0 < a0.size := (by have : (0 : Int) < (a0.size : Int) := od; omega)
   have hx4 : ∀ h : 0 < a0.size, ((a0[0]'h).toNat : Int) = bt a0 0 := bt_at a0 0; clear p4; have qi4 : (0 < (a0.size : Int)) = True := eq_true (od); replace q4 := eq_true q4
   go_enter Tryd.func112, Tryd.ntmps112
   go_wp2
   go_ret
   exact ⟨cl, d0⟩
  rw [if_neg c3] at H; exact absurd H (by simp)
 rw [if_neg c2] at H; have c2b0 : decide (2 < (a0.size : Int)) = false := decide_eq_false c2; have c2b1 : decide (2 < a0.size) = false := decide_eq_false (by omega); clear c2; obtain rfl := Option.some.inj H
 go_enter Tryd.func112, Tryd.ntmps112
 go_wp2
 go_ret
 exact ⟨cl, d0⟩

end Go.Proofs.YtihabmcaplnbcaaDoor.Fn
namespace Go.Proofs.YtihabmcaplnbcaaDoor.Fn
open Go.RowKit Go.Proofs.YtihabmcaplnbcaaDoorW.PrintWords Go.Proofs.YtihabmcaplnbcaaDoorW.PrintLast Go.Proofs.YtihabmcaplnbcaaDoorW.PrintMore
attribute [local go_sem] max2_int min2_int max_two min_two max_three min_three max_four min_four
set_option linter.unusedVariables false
set_option linter.unusedSimpArgs false

mutual
def lex_comment.l0 : Nat → ByteArray → Int → Int → Option (ByteArray × Int)
 | 0, _, _, _ => none
 | k + 1, x0, x4, x5 => if x5 < (x0.size : Int) then (if 0 ≤ x5 then (if x5 ≤ (x0.size : Int) then ((lex_fold.f (x0.extract (x5 : Int).toNat x0.size)).bind fun t134 => (if t134 = true then (lex_comment.l0 k x0 x4 (wrap64 ((wrap64 (x5 + 1)) + 1))) else (if (bt x0 x5) = 92 then (if 0 ≤ (wrap64 (x5 + 1)) then (if (wrap64 (x5 + 1)) ≤ (x0.size : Int) then ((lex_escaped.f (x0.extract ((wrap64 (x5 + 1)) : Int).toNat x0.size)).bind fun t135 => (if t135 = 0 then (lex_comment.l0 k x0 x4 (wrap64 ((wrap64 (x5 + 1)) + 1))) else (some ((⟨#[]⟩ : ByteArray), t135)))) else (none)) else (none)) else (if (bt x0 x5) = 40 then (lex_comment.j1 k x0 x4 x5 (bt x0 x5) (x4 == 16)) else (lex_comment.j1 k x0 x4 x5 (bt x0 x5) false))))) else (none)) else (none)) else (if x4 > 0 then (some ((⟨#[]⟩ : ByteArray), 9)) else (some (x0, 0)))
def lex_comment.j1 : Nat → ByteArray → Int → Int → Int → Bool → Option (ByteArray × Int)
 | 0, _, _, _, _, _ => none
 | k + 1, x0, x4, x5, x6, x36 => if x36 = true then (some ((⟨#[]⟩ : ByteArray), 1)) else (if x6 = 40 then (lex_comment.l0 k x0 (wrap64 (x4 + 1)) (wrap64 (x5 + 1))) else (if x6 = 41 then (lex_comment.j2 k x0 x4 x5 x6 (x4 == 1)) else (lex_comment.j2 k x0 x4 x5 x6 false)))
def lex_comment.j2 : Nat → ByteArray → Int → Int → Int → Bool → Option (ByteArray × Int)
 | 0, _, _, _, _, _ => none
 | k + 1, x0, x4, x5, x6, x48 => if x48 = true then (if 0 ≤ (wrap64 (x5 + 1)) then (if (wrap64 (x5 + 1)) ≤ (x0.size : Int) then (if 0 > 0 then (some ((⟨#[]⟩ : ByteArray), 9)) else (some (x0.extract ((wrap64 (x5 + 1)) : Int).toNat x0.size, 0))) else (none)) else (none)) else (if x6 = 41 then (lex_comment.l0 k x0 (wrap64 (x4 - 1)) (wrap64 (x5 + 1))) else ((lex_text.f x6).bind fun t136 => (if t136 = true then (lex_comment.l0 k x0 x4 (wrap64 (x5 + 1))) else (some ((⟨#[]⟩ : ByteArray), 3)))))
end
def lex_comment.f (k : Nat) (a0 : ByteArray) : Option (ByteArray × Int) := lex_comment.l0 k a0 0 0
set_option maxHeartbeats 8000000 in
set_option maxRecDepth 100000 in
theorem lex_comment.calls (k : Nat) (a0 : ByteArray) (r1 : ByteArray) (r2 : Int) (w : World) (h : lex_comment.f k a0 = some (r1, r2)) :
  Calls Tryd.prog 113 #[.string a0] w fun e w' => e = .returned (.tuple #[.string r1, .int .i64 r2]) ∧ Drawn0 w w' := by
 have H : (lex_comment.l0 k a0 0 0) = some (r1, r2) := h; clear h; have H' := Aside0.mk H; clear H
 go_enter Tryd.func113, Tryd.ntmps113
 go_wp2
 go_step3
 go_wp2
 go_step3
 go_wp2
 go_loopg [0, 4, 5] k (fun kq v0 v4 v5 w' => ∃ (x0_1 : ByteArray) (x4_1 : Int) (x5_1 : Int), v0 = .string x0_1 ∧ v4 = .int .i64 x4_1 ∧ v5 = .int .i64 x5_1 ∧ Aside0 (lex_comment.l0 kq x0_1 x4_1 x5_1 = some (r1, r2)) ∧ Aside0 (kq ≤ k) ∧ Drawn0 w w')
 case atStart => exact ⟨(a0), (0), (0), cl, cl, cl, H', ⟨Nat.le_refl _⟩, d0⟩
 case round =>
  clear H'
  try clear c1
  obtain ⟨x0_1, x4_1, x5_1, rfl, rfl, rfl, HA, HK1, ⟨m1, rfl⟩⟩ := hrel; cases gk with
  | zero => exact absurd HA.out (by simp [lex_comment.l0])
  | succ k1 =>
   have H := HA.out; clear HA; simp only [lex_comment.l0] at H
   by_cases c2 : x5_1 < (x0_1.size : Int)
   ·rw [if_pos c2] at H; have c2b0 := decide_eq_true c2; clear c2
    by_cases c3 : 0 ≤ x5_1
    ·rw [if_pos c3] at H; have c3b0 := decide_eq_true c3; clear c3; have c5b0 := eq_true (od : 0 ≤ x5_1)
     by_cases c6 : x5_1 ≤ (x0_1.size : Int)
     ·rw [if_pos c6] at H; have c6b0 := eq_true c6; have c6b1 := decide_eq_true c6; clear c6; replace H := Option.bind_eq_some_iff.mp H; obtain ⟨t134, A70, H⟩ := H; have A7 := Aside0.mk A70; clear A70
      by_cases c8 : t134 = true
      ·subst c8; rw [if_pos rfl] at H; have H' := Aside0.mk H; clear H; have p4 : 0 ≤ (x5_1 : Int) := od; have q4 : x5_1 < (x0_1.size : Int) := od; have hx4 := bt_at x0_1 x5_1; replace p4 := eq_true p4; replace q4 := eq_true q4
       go_wp2_with (first | ((with_reducible refine gate_callee (f := 112) rfl ?_); refine goesL_ (some 21) rfl rfl Tryd.func112 (by kernel_rfl) rfl #[.string (x0_1.extract (x5_1 : Int).toNat x0_1.size)] rfl am ?_; (with_reducible refine (lex_fold.calls (x0_1.extract (x5_1 : Int).toNat x0_1.size) true _ A7.out).mono ?_); rintro e w' ⟨rfl, ⟨nd, rfl⟩⟩; refine ⟨_, rfl, ?_⟩))
       go_roundg k1
       case measure => have := HK1.out; omega
       case rel => exact ⟨(x0_1), (x4_1), (wrap64 ((wrap64 (x5_1 + 1)) + 1)), cl, cl, cl, H', ⟨by have := HK1.out; omega⟩, d0⟩
      replace c8 := Bool.eq_false_iff.mpr c8; subst c8; rw [if_neg nft] at H
      by_cases c9 : (bt x0_1 x5_1) = 92
      ·rw [if_pos c9] at H; have c9b0 := beq_iff_eq.mpr c9; have c9b1 := bne_eq_false_iff_eq.mpr c9; clear c9; obtain ⟨ji10, hji10⟩ : ∃ j_ : Int, (wrap64 (x5_1 + 1)) = j_ := ⟨_, rfl⟩
       replace H : (if 0 ≤ (ji10) then (if (ji10) ≤ (x0_1.size : Int) then ((lex_escaped.f (x0_1.extract ((ji10) : Int).toNat x0_1.size)).bind fun t135 => (if t135 = 0 then (lex_comment.l0 k1 x0_1 x4_1 (wrap64 ((ji10) + 1))) else (some ((⟨#[]⟩ : ByteArray), t135)))) else (none)) else (none)) = some (r1, r2) := by first | (rw [hji10] at H; exact H) | (simp only [hji10] at H ⊢; exact H)
       (try rw [hji10] at A7)
       have hji10w : (IntKind.i64.wrap (x5_1 + 1)) = ji10 := (i64_w _).trans hji10
       by_cases c11 : 0 ≤ (ji10)
       ·rw [if_pos c11] at H; have c11b0 := eq_true c11; have c11b1 := decide_eq_true c11; clear c11
        by_cases c12 : (ji10) ≤ (x0_1.size : Int)
        ·rw [if_pos c12] at H; have c12b0 := eq_true c12; have c12b1 := decide_eq_true c12; clear c12; replace H := Option.bind_eq_some_iff.mp H; obtain ⟨t135, A130, H⟩ := H; have A13 := Aside0.mk A130; clear A130
         by_cases c14 : t135 = 0
         ·rw [if_pos c14] at H; have c14b0 := beq_iff_eq.mpr c14; have c14b1 := bne_eq_false_iff_eq.mpr c14; clear c14; have H' := Aside0.mk H; clear H; have p4 : 0 ≤ (x5_1 : Int) := od; have q4 : x5_1 < (x0_1.size : Int) := od; have hx4 := bt_at x0_1 x5_1; replace p4 := eq_true p4; replace q4 := eq_true q4
          go_wp2_with (first | ((with_reducible refine gate_callee (f := 112) rfl ?_); refine goesL_ (some 21) rfl rfl Tryd.func112 (by kernel_rfl) rfl #[.string (x0_1.extract (x5_1 : Int).toNat x0_1.size)] rfl am ?_; (with_reducible refine (lex_fold.calls (x0_1.extract (x5_1 : Int).toNat x0_1.size) false _ A7.out).mono ?_); rintro e w' ⟨rfl, ⟨nd, rfl⟩⟩; refine ⟨_, rfl, ?_⟩) | ((with_reducible refine gate_callee (f := 140) rfl ?_); refine goesL_ (some 32) rfl rfl Tryd.func140 (by kernel_rfl) rfl #[.string (x0_1.extract ((ji10) : Int).toNat x0_1.size)] rfl (by (try simp only [List.map_toArray, List.map_cons, List.map_nil]); first | done | (simp only [hji10]; rfl) | rfl | (simp only [List.length_drop, List.length_take]; rfl)) ?_; (with_reducible refine (lex_escaped.calls (x0_1.extract ((ji10) : Int).toNat x0_1.size) t135 _ A13.out).mono ?_); rintro e w' ⟨rfl, ⟨nd, rfl⟩⟩; refine ⟨_, rfl, ?_⟩))
          go_roundg k1
          case measure => have := HK1.out; omega
          case rel => exact ⟨(x0_1), (x4_1), (wrap64 ((ji10) + 1)), cl, cl, (by first | rfl | (simp; done) | (simp only [← hji10] <;> (first | rfl | simp)) | (simp [*]; done) | (simp [nil_ne]; done) | (simp [u8_w, i64w_]; done) | (simp [size_lit]; done) | (simp; unfold wrap64; omega)), H', ⟨by have := HK1.out; omega⟩, d0⟩
         rw [if_neg c14] at H; have c14b0 := beq_eq_false_iff_ne.mpr c14; have c14b1 := bne_iff_ne.mpr c14; simp only [Option.some.injEq, Prod.mk.injEq] at H; obtain ⟨rfl, rfl⟩ := H; have p4 : 0 ≤ (x5_1 : Int) := od; have q4 : x5_1 < (x0_1.size : Int) := od; have hx4 := bt_at x0_1 x5_1; replace p4 := eq_true p4; replace q4 := eq_true q4
         go_wp2_with (first | ((with_reducible refine gate_callee (f := 112) rfl ?_); refine goesL_ (some 21) rfl rfl Tryd.func112 (by kernel_rfl) rfl #[.string (x0_1.extract (x5_1 : Int).toNat x0_1.size)] rfl am ?_; (with_reducible refine (lex_fold.calls (x0_1.extract (x5_1 : Int).toNat x0_1.size) false _ A7.out).mono ?_); rintro e w' ⟨rfl, ⟨nd, rfl⟩⟩; refine ⟨_, rfl, ?_⟩) | ((with_reducible refine gate_callee (f := 140) rfl ?_); refine goesL_ (some 32) rfl rfl Tryd.func140 (by kernel_rfl) rfl #[.string (x0_1.extract ((ji10) : Int).toNat x0_1.size)] rfl (by (try simp only [List.map_toArray, List.map_cons, List.map_nil]); first | done | (simp only [hji10]; rfl) | rfl | (simp only [List.length_drop, List.length_take]; rfl)) ?_; (with_reducible refine (lex_escaped.calls (x0_1.extract ((ji10) : Int).toNat x0_1.size) t135 _ A13.out).mono ?_); rintro e w' ⟨rfl, ⟨nd, rfl⟩⟩; refine ⟨_, rfl, ?_⟩))
         (try rw [Exit.noGoto_ret])
         go_ret2
         exact ⟨by first | rfl | (simp; done) | (simp only [← hji10] <;> (first | rfl | simp)) | (simp [*]; done) | (simp [nil_ne]; done) | (simp [u8_w, i64w_]; done) | (simp [size_lit]; done) | (simp; unfold wrap64; omega), d0⟩
        rw [if_neg c12] at H; exact absurd H (by simp)
       rw [if_neg c11] at H; exact absurd H (by simp)
      rw [if_neg c9] at H; have c9b0 := beq_eq_false_iff_ne.mpr c9; have c9b1 := bne_iff_ne.mpr c9; have HC15 := Aside0.mk H; clear H; have p4 : 0 ≤ (x5_1 : Int) := od; have q4 : x5_1 < (x0_1.size : Int) := od; have hx4 := bt_at x0_1 x5_1; replace p4 := eq_true p4; replace q4 := eq_true q4
      go_upto_region 13 with (first | ((with_reducible refine gate_callee (f := 112) rfl ?_); refine goesL_ (some 21) rfl rfl Tryd.func112 (by kernel_rfl) rfl #[.string (x0_1.extract (x5_1 : Int).toNat x0_1.size)] rfl am ?_; (with_reducible refine (lex_fold.calls (x0_1.extract (x5_1 : Int).toNat x0_1.size) false _ A7.out).mono ?_); rintro e w' ⟨rfl, ⟨nd, rfl⟩⟩; refine ⟨_, rfl, ?_⟩))
      (try simp only [Act.put, List.setIfInBounds_toArray, List.set_cons_zero, List.set_cons_succ])
      go_cut [36] (fun v36 wc => ∃ (kq : Nat) (x36_14 : Bool), v36 = .bool x36_14 ∧ Aside0 (lex_comment.j1 kq x0_1 x4_1 x5_1 (bt x0_1 x5_1) x36_14 = some (r1, r2)) ∧ Aside0 (kq ≤ k1) ∧ Drawn0 w wc)
      case first =>
       have H := HC15.out; clear HC15
       by_cases c16 : (bt x0_1 x5_1) = 40
       ·rw [if_pos c16] at H; have c16b0 := beq_iff_eq.mpr c16; have c16b1 := bne_eq_false_iff_eq.mpr c16; clear c16
        (first | rw [c16b0] | (simp only [i64_w, i32_w]; rw [c16b0]) | skip)
        have H' := Aside0.mk H; clear H
        go_wp2
        go_meet
        case rel => exact ⟨_, ((x4_1 == 16)), cl, H', ⟨by have := HK1.out; first | omega | exact Nat.le_refl _⟩, d0⟩
       rw [if_neg c16] at H; have c16b0 := beq_eq_false_iff_ne.mpr c16; have c16b1 := bne_iff_ne.mpr c16
       (first | rw [c16b0] | (simp only [i64_w, i32_w]; rw [c16b0]) | skip)
       have H' := Aside0.mk H; clear H
       go_wp2
       go_meet
       case rel => exact ⟨_, (false), cl, H', ⟨by have := HK1.out; first | omega | exact Nat.le_refl _⟩, d0⟩
      case rest =>
       clear HC15
       try clear c1
       try clear c2
       try clear c2b0
       try clear p2
       try clear c3
       try clear c3b0
       try clear p4
       try clear q4
       try clear hx4
       try clear c5
       try clear c5b0
       try clear c6
       try clear c6b0
       try clear c6b1
       try clear p6
       try clear c8
       try clear c9
       try clear c9b0
       try clear c9b1
       try clear c11
       try clear c11b0
       try clear c11b1
       try clear c12
       try clear c12b0
       try clear c12b1
       try clear c14
       try clear c14b0
       try clear c14b1
       try clear c16
       try clear c16b0
       try clear c16b1
       try clear p4
       try clear q4
       obtain ⟨kq, x36_14, rfl, HA, HJ14, ⟨mc14, rfl⟩⟩ := hcut; cases kq with
       | zero => exact absurd HA.out (by simp [lex_comment.j1])
       | succ kj14 =>
        have H := HA.out; clear HA; simp only [lex_comment.j1] at H
        by_cases c17 : x36_14 = true
        ·subst c17; rw [if_pos rfl] at H; simp only [Option.some.injEq, Prod.mk.injEq] at H; obtain ⟨rfl, rfl⟩ := H
         go_wp2
         (try rw [Exit.noGoto_ret])
         go_ret2
         exact ⟨cl, d0⟩
        replace c17 := Bool.eq_false_iff.mpr c17; subst c17; rw [if_neg nft] at H
        by_cases c18 : (bt x0_1 x5_1) = 40
        ·rw [if_pos c18] at H; have c18b0 := beq_iff_eq.mpr c18; have c18b1 := bne_eq_false_iff_eq.mpr c18; clear c18; have H' := Aside0.mk H; clear H
         go_wp2
         go_roundg kj14
         case measure => have := HK1.out; have := HJ14.out; omega
         case rel => exact ⟨(x0_1), (wrap64 (x4_1 + 1)), (wrap64 (x5_1 + 1)), cl, cl, cl, H', ⟨by have := HK1.out; have := HJ14.out; omega⟩, d0⟩
        rw [if_neg c18] at H; have c18b0 := beq_eq_false_iff_ne.mpr c18; have c18b1 := bne_iff_ne.mpr c18; have HC19 := Aside0.mk H; clear H
        go_upto_region 17 with (fail)
        go_cut [48] (fun v48 wc => ∃ (kq : Nat) (x48_18 : Bool), v48 = .bool x48_18 ∧ Aside0 (lex_comment.j2 kq x0_1 x4_1 x5_1 (bt x0_1 x5_1) x48_18 = some (r1, r2)) ∧ Aside0 (kq ≤ kj14) ∧ Drawn0 w wc)
        case first =>
         have H := HC19.out; clear HC19
         by_cases c20 : (bt x0_1 x5_1) = 41
         ·rw [if_pos c20] at H; have c20b0 := beq_iff_eq.mpr c20; have c20b1 := bne_eq_false_iff_eq.mpr c20; clear c20
          (first | rw [c20b0] | (simp only [i64_w, i32_w]; rw [c20b0]) | skip)
          have H' := Aside0.mk H; clear H
          go_wp2
          go_meet
          case rel => exact ⟨_, ((x4_1 == 1)), cl, H', ⟨by have := HK1.out; have := HJ14.out; first | omega | exact Nat.le_refl _⟩, d0⟩
         rw [if_neg c20] at H; have c20b0 := beq_eq_false_iff_ne.mpr c20; have c20b1 := bne_iff_ne.mpr c20
         (first | rw [c20b0] | (simp only [i64_w, i32_w]; rw [c20b0]) | skip)
         have H' := Aside0.mk H; clear H
         go_wp2
         go_meet
         case rel => exact ⟨_, (false), cl, H', ⟨by have := HK1.out; have := HJ14.out; first | omega | exact Nat.le_refl _⟩, d0⟩
        case rest =>
         clear HC19
         try clear c1
         try clear c2
         try clear c2b0
         try clear p2
         try clear c3
         try clear c3b0
         try clear p4
         try clear q4
         try clear hx4
         try clear c5
         try clear c5b0
         try clear c6
         try clear c6b0
         try clear c6b1
         try clear p6
         try clear c8
         try clear c9
         try clear c9b0
         try clear c9b1
         try clear c11
         try clear c11b0
         try clear c11b1
         try clear c12
         try clear c12b0
         try clear c12b1
         try clear c14
         try clear c14b0
         try clear c14b1
         try clear c16
         try clear c16b0
         try clear c16b1
         try clear c17
         try clear c18
         try clear c18b0
         try clear c18b1
         try clear c20
         try clear c20b0
         try clear c20b1
         try clear p2
         try clear p4
         try clear p6
         try clear q4
         obtain ⟨kq, x48_18, rfl, HA, HJ18, ⟨mc18, rfl⟩⟩ := hcut; cases kq with
         | zero => exact absurd HA.out (by simp [lex_comment.j2])
         | succ kj18 =>
          have H := HA.out; clear HA; simp only [lex_comment.j2] at H
          by_cases c21 : x48_18 = true
          ·subst c21; rw [if_pos rfl] at H; obtain ⟨ji22, hji22⟩ : ∃ j_ : Int, (wrap64 (x5_1 + 1)) = j_ := ⟨_, rfl⟩
           replace H : (if 0 ≤ (ji22) then (if (ji22) ≤ (x0_1.size : Int) then (if 0 > 0 then (some ((⟨#[]⟩ : ByteArray), 9)) else (some (x0_1.extract ((ji22) : Int).toNat x0_1.size, 0))) else (none)) else (none)) = some (r1, r2) := by first | (rw [hji22] at H; exact H) | (simp only [hji22] at H ⊢; exact H)
           have hji22w : (IntKind.i64.wrap (x5_1 + 1)) = ji22 := (i64_w _).trans hji22
           by_cases c23 : 0 ≤ (ji22)
           ·rw [if_pos c23] at H; have c23b0 := eq_true c23; have c23b1 := decide_eq_true c23; clear c23
            by_cases c24 : (ji22) ≤ (x0_1.size : Int)
            ·rw [if_pos c24] at H; have c24b0 := eq_true c24; have c24b1 := decide_eq_true c24; clear c24
             by_cases c25 : 0 > 0
             ·exact absurd c25 (by decide)
             rw [if_neg c25] at H; have c25b0 : decide (0 < 0) = false := decide_eq_false c25; clear c25; simp only [Option.some.injEq, Prod.mk.injEq] at H; obtain ⟨rfl, rfl⟩ := H
             go_wp2
             (try rw [Exit.noGoto_ret])
             go_ret2
             exact ⟨by first | rfl | (simp; done) | (simp only [← hji22] <;> (first | rfl | simp)) | (simp [*]; done) | (simp [nil_ne]; done) | (simp [u8_w, i64w_]; done) | (simp [size_lit]; done) | (simp; unfold wrap64; omega), d0⟩
            rw [if_neg c24] at H; exact absurd H (by simp)
           rw [if_neg c23] at H; exact absurd H (by simp)
          replace c21 := Bool.eq_false_iff.mpr c21; subst c21; rw [if_neg nft] at H
          by_cases c26 : (bt x0_1 x5_1) = 41
          ·rw [if_pos c26] at H; have c26b0 := beq_iff_eq.mpr c26; have c26b1 := bne_eq_false_iff_eq.mpr c26; clear c26; have H' := Aside0.mk H; clear H
           go_wp2
           go_roundg kj18
           case measure => have := HK1.out; have := HJ14.out; have := HJ18.out; omega
           case rel => exact ⟨(x0_1), (wrap64 (x4_1 - 1)), (wrap64 (x5_1 + 1)), cl, cl, cl, H', ⟨by have := HK1.out; have := HJ14.out; have := HJ18.out; omega⟩, d0⟩
          rw [if_neg c26] at H; have c26b0 := beq_eq_false_iff_ne.mpr c26; have c26b1 := bne_iff_ne.mpr c26; replace H := Option.bind_eq_some_iff.mp H; obtain ⟨t136, A270, H⟩ := H; have A27 := Aside0.mk A270; clear A270
          by_cases c28 : t136 = true
          ·subst c28; rw [if_pos rfl] at H; have H' := Aside0.mk H; clear H
           go_wp2_with (first | ((with_reducible refine gate_callee (f := 141) rfl ?_); refine goesL_ (some 66) rfl rfl Tryd.func141 (by kernel_rfl) rfl #[.int .u8 (bt x0_1 x5_1)] rfl am ?_; (with_reducible refine (lex_text.calls (bt x0_1 x5_1) true _ A27.out).mono ?_); rintro e w' ⟨rfl, ⟨nd, rfl⟩⟩; refine ⟨_, rfl, ?_⟩))
           go_roundg kj18
           case measure => have := HK1.out; have := HJ14.out; have := HJ18.out; omega
           case rel => exact ⟨(x0_1), (x4_1), (wrap64 (x5_1 + 1)), cl, cl, cl, H', ⟨by have := HK1.out; have := HJ14.out; have := HJ18.out; omega⟩, d0⟩
          replace c28 := Bool.eq_false_iff.mpr c28; subst c28; rw [if_neg nft] at H; simp only [Option.some.injEq, Prod.mk.injEq] at H; obtain ⟨rfl, rfl⟩ := H
          go_wp2_with (first | ((with_reducible refine gate_callee (f := 141) rfl ?_); refine goesL_ (some 66) rfl rfl Tryd.func141 (by kernel_rfl) rfl #[.int .u8 (bt x0_1 x5_1)] rfl am ?_; (with_reducible refine (lex_text.calls (bt x0_1 x5_1) false _ A27.out).mono ?_); rintro e w' ⟨rfl, ⟨nd, rfl⟩⟩; refine ⟨_, rfl, ?_⟩))
          (try rw [Exit.noGoto_ret])
          go_ret2
          exact ⟨cl, d0⟩
     rw [if_neg c6] at H; exact absurd H (by simp)
    rw [if_neg c3] at H; exact absurd H (by simp)
   rw [if_neg c2] at H; have c2b0 := decide_eq_false c2; clear c2
   by_cases c29 : x4_1 > 0
   ·rw [if_pos c29] at H; have c29b0 : decide (0 < x4_1) = true := decide_eq_true c29; clear c29; simp only [Option.some.injEq, Prod.mk.injEq] at H; obtain ⟨rfl, rfl⟩ := H
    go_wp2
    (try rw [Exit.noGoto_ret])
    go_ret2
    exact ⟨cl, d0⟩
   rw [if_neg c29] at H; have c29b0 : decide (0 < x4_1) = false := decide_eq_false c29; clear c29; simp only [Option.some.injEq, Prod.mk.injEq] at H; obtain ⟨rfl, rfl⟩ := H
   go_wp2
   (try rw [Exit.noGoto_ret])
   go_ret2
   exact ⟨cl, d0⟩

end Go.Proofs.YtihabmcaplnbcaaDoor.Fn
