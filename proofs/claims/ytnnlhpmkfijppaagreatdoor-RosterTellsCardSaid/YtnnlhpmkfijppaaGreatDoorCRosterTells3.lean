/- A part of the proof of this sentence: What any member is, gets and becomes by a bounce and when it is well, a new one, and the words of modes, are as the document has them -/
import Derived.Test.YtnnlhpmkfijppaaGreatDoorCRosterTells2
namespace Go.Proofs.YtnnlhpmkfijppaaGreatDoor.Fn
open Go.RowKit Go.Proofs.YtnnlhpmkfijppaaGreatDoorW.PrintWords Go.Proofs.YtnnlhpmkfijppaaGreatDoorW.PrintLast Go.Proofs.YtnnlhpmkfijppaaGreatDoorW.PrintMore
attribute [local go_sem] max2_int min2_int max_two min_two max_three min_three max_four min_four
set_option linter.unusedVariables false
set_option linter.unusedSimpArgs false
def lex_Scan.l0 : Nat → ByteArray → List (S94) → Option ((List (S94)) × Int)
 | 0, _, _ => none
 | k + 1, x0, x4 => if x0.toList = ([] : List UInt8) then (some (x4, 0)) else ((lex_next.f k x0).bind fun bt230 => (if bt230.2.2.2 = 0 then (if bt230.1 = 0 then (lex_Scan.l0 k bt230.2.2.1 x4) else (if x4.length < 5864062014805 then (lex_Scan.l0 k bt230.2.2.1 (x4 ++ [(⟨bt230.1, bt230.2.1⟩ : S94)])) else (none))) else (some (([] : List (S94)), bt230.2.2.2))))
def lex_Scan.f (k : Nat) (a0 : ByteArray) : Option ((List (S94)) × Int) := lex_Scan.l0 k a0 ([] : List (S94))
theorem lex_Scan.mono_l : ∀ k, (∀ y0 y1, LeO (lex_Scan.l0 k y0 y1) (lex_Scan.l0 (k + 1) y0 y1))
 | 0 => fun _ _ r h => by simp [lex_Scan.l0] at h
 | k + 1 => by
  have ih0 := lex_Scan.mono_l k
  ·intro y0 y1; unfold lex_Scan.l0
   repeat' first
   | (with_reducible exact ih0 _ _)
   | (with_reducible exact lex_next.mono _ _)
   | (with_reducible exact LeO.refl _)
   | (with_reducible exact LeO.none _)
   | (with_reducible refine LeO.ite ?_ ?_)
   | (with_reducible refine LeO.bind ?_ (fun _ => ?_))
   | exact ih0 _ _
   | exact lex_next.mono _ _
   | exact LeO.none _
   | refine LeO.ite ?_ ?_
   | refine LeO.bind ?_ (fun _ => ?_)
theorem lex_Scan.mono : ∀ a0 k, LeO (lex_Scan.f k a0) (lex_Scan.f (k + 1) a0) := by
 intro a0 k; have ih0 := lex_Scan.mono_l k; unfold lex_Scan.f
 repeat' first
   | (with_reducible exact ih0 _ _)
   | (with_reducible exact lex_next.mono _ _)
   | (with_reducible exact LeO.refl _)
   | (with_reducible exact LeO.none _)
   | (with_reducible refine LeO.ite ?_ ?_)
   | (with_reducible refine LeO.bind ?_ (fun _ => ?_))
   | exact ih0 _ _
   | exact lex_next.mono _ _
   | exact LeO.none _
   | refine LeO.ite ?_ ?_
   | refine LeO.bind ?_ (fun _ => ?_)
set_option maxHeartbeats 8000000 in
set_option maxRecDepth 100000 in
theorem lex_Scan.calls (k : Nat) (a0 : ByteArray) (r1 : List (S94)) (r2 : Int) (w : World) (h : lex_Scan.f k a0 = some (r1, r2)) :
  Calls Tryz.prog 44 #[.string a0] w fun e w' => ∃ v0_ : Value, e = .returned (.tuple #[v0_, .int .i64 r2]) ∧ Kd.R k94 94 w' w.heap.size (fun _ => True) v0_ r1 ∧ Below w.heap.size w w' := by
 have hu94 := Tryz.underlying94; have HB := Aside0.mk (Below.refl w.heap.size w); have H : (lex_Scan.l0 k a0 ([] : List (S94))) = some (r1, r2) := h; clear h; have H' := Aside0.mk H; clear H
 go_enter Tryz.func44, Tryz.ntmps44
 go_wp2
 go_loopg [0, 4] k (fun kq v0 v4 w' => ∃ (x0_1 : ByteArray) (x4_1 : List (S94)), v0 = .string x0_1 ∧ Aside0 (lex_Scan.l0 kq x0_1 x4_1 = some (r1, r2)) ∧ Aside0 (kq ≤ k) ∧ Aside0 (Kd.R k94 94 w' w.heap.size (fun _ => True) v4 x4_1) ∧ Aside0 (Below w.heap.size w w'))
 case atStart => exact ⟨(a0), (([] : List (S94))), cl, H', ⟨Nat.le_refl _⟩, ⟨by first | exact Kd.R_nil _ _ _ _ _ | exact Kd.N_nil _ _ _ _ _ | exact Kd.V_nil _ _ _ _ _ | exact Kd.Q_nil _ _ _ _ _ | exact Kd.S_nil _ _ _ _ _⟩, ⟨bw⟩⟩
 case round =>
  clear H'; obtain ⟨x0_1, x4_1, rfl, HA, HK1, HO_4, HB⟩ := hrel; cases gk with
  | zero => exact absurd HA.out (by simp [lex_Scan.l0])
  | succ k1 =>
   have H := HA.out; clear HA; simp only [lex_Scan.l0] at H
   by_cases c2 : x0_1.toList = ([] : List UInt8)
   ·rw [if_pos c2] at H; have c2b0 := beq_iff_eq.mpr c2; have c2b1 := bne_eq_false_iff_eq.mpr c2; clear c2; simp only [Option.some.injEq, Prod.mk.injEq] at H; obtain ⟨rfl, rfl⟩ := H
    go_wp2
    go_ret2
    exact ⟨_, ew, ra HO_4.out, bw⟩
   rw [if_neg c2] at H; have c2b0 := beq_eq_false_iff_ne.mpr c2; have c2b1 := bne_iff_ne.mpr c2; replace H := Option.bind_eq_some_iff.mp H; obtain ⟨⟨t230, t231, t232, t233⟩, A30, H⟩ := H; replace H : (if t233 = 0 then (if t230 = 0 then (lex_Scan.l0 k1 t232 x4_1) else (if x4_1.length < 5864062014805 then (lex_Scan.l0 k1 t232 (x4_1 ++ [(⟨t230, t231⟩ : S94)])) else (none))) else (some (([] : List (S94)), t233))) = some (r1, r2) := H; have A3 := Aside0.mk A30; clear A30
   by_cases c4 : t233 = 0
   ·rw [if_pos c4] at H; have c4b0 := beq_iff_eq.mpr c4; have c4b1 := bne_eq_false_iff_eq.mpr c4; clear c4
    by_cases c5 : t230 = 0
    ·rw [if_pos c5] at H; have c5b0 := beq_iff_eq.mpr c5; have c5b1 := bne_eq_false_iff_eq.mpr c5; clear c5; have H' := Aside0.mk H; clear H
     go_wp2_with (first | ((with_reducible refine gate_callee (f := 64) rfl ?_); refine goesL_ (some 12) rfl rfl Tryz.func64 (by kernel_rfl) rfl #[.string x0_1] rfl am ?_; (with_reducible refine (lex_next.calls k1 x0_1 t230 t231 t232 t233 _ A3.out).mono ?_); rintro e w6 ⟨rfl, hb⟩; refine ⟨_, rfl, ?_⟩; have n0_ := Aside0.mk (Kd.R_below (ra HO_4.out) hb); have n1_ := Aside0.mk (below_step bw hb); clear HO_4; clear HB; have HO_4 := n0_; have HB := n1_; clear n0_ n1_; (try clear hb); (try clear hb2); (try clear hk); (try clear hi)) | ((with_reducible refine gate_dst (N := 5) rfl ?_); refine box_event ?hg (N := 5) ?hd (cs := #[.int .i64 0, .string (⟨#[]⟩ : ByteArray)]) (t := 94) ?hr ?_; (case hd => rfl); (case hg => rfl); (case hr => first | (go_simp; done) | (go_simp; rfl)); intro gb234 hg w7 hbox hb; have n0_ := Aside0.mk (Kd.R_below (Kd.R_elderB (ra HO_4.out) gb234 (Nat.le_of_eq hg.symm)) hb); have n1_ := Aside0.mk (below_step bw hb); have n2_ := Aside0.mk (hbox); have n3_ := Aside0.mk ((by rw [hg]; exact (below_size bw) : w.heap.size ≤ gb234)); have n4_ := Aside0.mk ((by rw [hg]; exact (below_size bw) : w.heap.size ≤ gb234)); clear HO_4; clear HB; have HO_4 := n0_; have HB := n1_; have BK234 := n2_; have GW234 := n3_; have GE234 := n4_; clear n0_ n1_ n2_ n3_ n4_; clear hb hbox hg; have hcz8_0 : w7.cell? ⟨gb234, 0, none⟩ = some (.int .i64 0) := (blk_cell BK234.out 0).trans rfl; have hcz8_1 : w7.cell? ⟨gb234, 1, none⟩ = some (.string (⟨#[]⟩ : ByteArray)) := (blk_cell BK234.out 1).trans rfl; have hfz8_0 := blk_frozen BK234.out 0; have hfz8_1 := blk_frozen BK234.out 1))
     go_roundg k1
     case measure => have := HK1.out; omega
     case rel => exact ⟨(t232), (x4_1), cl, H', ⟨by have := HK1.out; omega⟩, ⟨ra (Kd.R_mono (Kd.R_far (p := ⟨gb234, 1, none⟩) (Kd.R_far (p := ⟨gb234, 0, none⟩) (Kd.R_mono HO_4.out (fun k_ hk => (⟨hk, hk.2⟩ : _ ∧ k_ ≠ gb234))) (fun _ hk => hk.2) (.int .i64 t230)) (fun _ hk => hk.2) (.string t231)) (fun _ hk => trivial))⟩, ⟨bwS⟩⟩
    rw [if_neg c5] at H; have c5b0 := beq_eq_false_iff_ne.mpr c5; have c5b1 := bne_iff_ne.mpr c5
    by_cases c9 : x4_1.length < 5864062014805
    ·rw [if_pos c9] at H; have LMc9 := Aside0.mk c9; clear c9; obtain ⟨y235, hy235⟩ : ∃ y_ : List (S94), y_ = (x4_1 ++ [(⟨t230, t231⟩ : S94)]) := ⟨_, rfl⟩
     replace H : (lex_Scan.l0 k1 t232 y235) = some (r1, r2) := by first | (rw [hy235]; with_reducible exact H) | (have H2_ := (Option.bind_some _ _).symm.trans H; rw [hy235]; with_reducible exact H2_) | (have H2_ := (Option.bind_some _ _).symm.trans H; with_reducible exact H2_) | with_reducible exact H | (rw [hy235]; exact H) | exact H
     have Ny235 := Aside0.mk hy235; clear hy235; have H' := Aside0.mk H; clear H
     go_wp2_with (first | ((with_reducible refine gate_callee (f := 64) rfl ?_); refine goesL_ (some 12) rfl rfl Tryz.func64 (by kernel_rfl) rfl #[.string x0_1] rfl am ?_; (with_reducible refine (lex_next.calls k1 x0_1 t230 t231 t232 t233 _ A3.out).mono ?_); rintro e w10 ⟨rfl, hb⟩; refine ⟨_, rfl, ?_⟩; have n0_ := Aside0.mk (Kd.R_below (ra HO_4.out) hb); have n1_ := Aside0.mk (below_step bw hb); clear HO_4; clear HB; have HO_4 := n0_; have HB := n1_; clear n0_ n1_; (try clear hb); (try clear hb2); (try clear hk); (try clear hi)) | ((with_reducible refine gate_dst (N := 5) rfl ?_); refine box_event ?hg (N := 5) ?hd (cs := #[.int .i64 0, .string (⟨#[]⟩ : ByteArray)]) (t := 94) ?hr ?_; (case hd => rfl); (case hg => rfl); (case hr => first | (go_simp; done) | (go_simp; rfl)); intro gb234 hg w11 hbox hb; have n0_ := Aside0.mk (Kd.R_below (Kd.R_elderB (ra HO_4.out) gb234 (Nat.le_of_eq hg.symm)) hb); have n1_ := Aside0.mk (below_step bw hb); have n2_ := Aside0.mk (hbox); have n3_ := Aside0.mk ((by rw [hg]; exact (below_size bw) : w.heap.size ≤ gb234)); have n4_ := Aside0.mk ((by rw [hg]; exact (below_size bw) : w.heap.size ≤ gb234)); clear HO_4; clear HB; have HO_4 := n0_; have HB := n1_; have BK234 := n2_; have GW234 := n3_; have GE234 := n4_; clear n0_ n1_ n2_ n3_ n4_; clear hb hbox hg; have hcz12_0 : w11.cell? ⟨gb234, 0, none⟩ = some (.int .i64 0) := (blk_cell BK234.out 0).trans rfl; have hcz12_1 : w11.cell? ⟨gb234, 1, none⟩ = some (.string (⟨#[]⟩ : ByteArray)) := (blk_cell BK234.out 1).trans rfl; have hfz12_0 := blk_frozen BK234.out 0; have hfz12_1 := blk_frozen BK234.out 1) | ((with_reducible refine gate_builtin (b := .append) (xs := #[.tmp 22, .tmp 24]) rfl ?_); at_builtin; refine Kd.R_append k94 (w0 := w) w.heap.size rfl (.tmp 22) (.tmp 24) 69 94 (.agg #[(.int .i64 0), (.string ⟨#[]⟩)]) 24 rfl Tryz.underlying69 info94 rfl (by decide) (by omega) u4 x4_1 (⟨t230, t231⟩ : S94) [.int .i64 t230, .string t231] (fun k_ => k_ ≠ gb234) (fun _ => False) rfl (by first | (go_simp; done) | (go_simp; rfl)) ?aP (fun _ hk => hk.elim) ?aF ?aO ?aB ?aS ?aL ?_; (case aP => exact k94_mkM _ _ _ (⟨t230, t231⟩ : S94)); (case aB => exact bwS); (case aF => exact (fun k_ hk => Kd.freshB (g := gb234) (o := .cells #[.int .i64 t230, .string t231] 94 (0, 0)) (by (with_reducible repeat (first | refine blk_drewN ?_ _ | refine blk_drew ?_ | refine blk_alloc ?_ _)); refine blk_put (cs := #[.int .i64 t230, .string (⟨#[]⟩ : ByteArray)]) ?_ 1 _ rfl; (with_reducible repeat (first | refine blk_drewN ?_ _ | refine blk_drew ?_ | refine blk_alloc ?_ _)); exact blk_put (cs := #[.int .i64 0, .string (⟨#[]⟩ : ByteArray)]) bk 0 _ rfl) k_ hk)); (case aO => exact (ra (Kd.R_mono (Kd.R_far (p := ⟨gb234, 1, none⟩) (Kd.R_far (p := ⟨gb234, 0, none⟩) (Kd.R_mono HO_4.out (fun k_ hk => (⟨hk, hk.2⟩ : _ ∧ k_ ≠ gb234))) (fun _ hk => hk.2) (.int .i64 t230)) (fun _ hk => hk.2) (.string t231)) (fun _ hk => hk.1.2)))); (case aS => exact (below_size bwS)); (case aL => have := LMc9.out; omega); intro v236 w13 ho hb hg hat; rw [← Ny235.out] at ho; have n0_ := Aside0.mk (blk_grown (g := gb234) (o := .cells #[.int .i64 t230, .string t231] 94 (0, 0)) (by (with_reducible repeat (first | refine blk_drewN ?_ _ | refine blk_drew ?_ | refine blk_alloc ?_ _)); refine blk_put (cs := #[.int .i64 t230, .string (⟨#[]⟩ : ByteArray)]) ?_ 1 _ rfl; (with_reducible repeat (first | refine blk_drewN ?_ _ | refine blk_drew ?_ | refine blk_alloc ?_ _)); exact blk_put (cs := #[.int .i64 0, .string (⟨#[]⟩ : ByteArray)]) bk 0 _ rfl) hg (Kd.R_away HO_4.out (fun _ hk => hk.2))); have n1_ := Aside0.mk (hb); have n2_ := Aside0.mk (ho); clear BK234; clear HB; clear HO_4; have BK234 := n0_; have HB := n1_; have HO237 := n2_; clear n0_ n1_ n2_; clear ho hb hg hat))
     go_roundg k1
     case measure => have := HK1.out; omega
     case rel => exact ⟨(t232), (y235), cl, H', ⟨by have := HK1.out; omega⟩, ⟨ra (Kd.R_mono HO237.out (fun _ hk => trivial))⟩, ⟨bwS⟩⟩
    rw [if_neg c9] at H; exact absurd H (by simp)
   rw [if_neg c4] at H; have c4b0 := beq_eq_false_iff_ne.mpr c4; have c4b1 := bne_iff_ne.mpr c4; simp only [Option.some.injEq, Prod.mk.injEq] at H; obtain ⟨rfl, rfl⟩ := H
   go_wp2_with (first | ((with_reducible refine gate_callee (f := 64) rfl ?_); refine goesL_ (some 12) rfl rfl Tryz.func64 (by kernel_rfl) rfl #[.string x0_1] rfl am ?_; (with_reducible refine (lex_next.calls k1 x0_1 t230 t231 t232 t233 _ A3.out).mono ?_); rintro e w14 ⟨rfl, hb⟩; refine ⟨_, rfl, ?_⟩; have n0_ := Aside0.mk (Kd.R_below (ra HO_4.out) hb); have n1_ := Aside0.mk (below_step bw hb); clear HO_4; clear HB; have HO_4 := n0_; have HB := n1_; clear n0_ n1_; (try clear hb); (try clear hb2); (try clear hk); (try clear hi)) | ((with_reducible refine gate_dst (N := 5) rfl ?_); refine box_event ?hg (N := 5) ?hd (cs := #[.int .i64 0, .string (⟨#[]⟩ : ByteArray)]) (t := 94) ?hr ?_; (case hd => rfl); (case hg => rfl); (case hr => first | (go_simp; done) | (go_simp; rfl)); intro gb234 hg w15 hbox hb; have n0_ := Aside0.mk (Kd.R_below (Kd.R_elderB (ra HO_4.out) gb234 (Nat.le_of_eq hg.symm)) hb); have n1_ := Aside0.mk (below_step bw hb); have n2_ := Aside0.mk (hbox); have n3_ := Aside0.mk ((by rw [hg]; exact (below_size bw) : w.heap.size ≤ gb234)); have n4_ := Aside0.mk ((by rw [hg]; exact (below_size bw) : w.heap.size ≤ gb234)); clear HO_4; clear HB; have HO_4 := n0_; have HB := n1_; have BK234 := n2_; have GW234 := n3_; have GE234 := n4_; clear n0_ n1_ n2_ n3_ n4_; clear hb hbox hg; have hcz16_0 : w15.cell? ⟨gb234, 0, none⟩ = some (.int .i64 0) := (blk_cell BK234.out 0).trans rfl; have hcz16_1 : w15.cell? ⟨gb234, 1, none⟩ = some (.string (⟨#[]⟩ : ByteArray)) := (blk_cell BK234.out 1).trans rfl; have hfz16_0 := blk_frozen BK234.out 0; have hfz16_1 := blk_frozen BK234.out 1))
   go_ret2
   exact ⟨_, ew, by first | exact Kd.R_nil _ _ _ _ _ | exact Kd.N_nil _ _ _ _ _ | exact Kd.V_nil _ _ _ _ _ | exact Kd.Q_nil _ _ _ _ _ | exact Kd.S_nil _ _ _ _ _, bwS⟩

def addr_Parse.f (k : Nat) (a0 : ByteArray) : Option (ByteArray × ByteArray × Int) := (lex_Scan.f k a0).bind fun bt274 => (if bt274.2 = 0 then ((addr_Of.f k bt274.1).bind fun bt278 => (some (bt278.1, bt278.2.1, bt278.2.2))) else (some ((⟨#[]⟩ : ByteArray), (⟨#[]⟩ : ByteArray), 130)))
theorem addr_Parse.mono : ∀ a0 k, LeO (addr_Parse.f k a0) (addr_Parse.f (k + 1) a0) := by
 intro a0 k; unfold addr_Parse.f
 repeat' first
   | (with_reducible exact addr_Of.mono _ _)
   | (with_reducible exact lex_Scan.mono _ _)
   | (with_reducible exact LeO.refl _)
   | (with_reducible exact LeO.none _)
   | (with_reducible refine LeO.ite ?_ ?_)
   | (with_reducible refine LeO.bind ?_ (fun _ => ?_))
   | exact addr_Of.mono _ _
   | exact lex_Scan.mono _ _
   | exact LeO.none _
   | refine LeO.ite ?_ ?_
   | refine LeO.bind ?_ (fun _ => ?_)
set_option maxHeartbeats 8000000 in
set_option maxRecDepth 100000 in
theorem addr_Parse.calls (k : Nat) (a0 : ByteArray) (r1 : ByteArray) (r2 : ByteArray) (r3 : Int) (w : World) (h : addr_Parse.f k a0 = some (r1, r2, r3)) :
  Calls Tryz.prog 26 #[.string a0] w fun e w' => e = .returned (.tuple #[.agg #[.string r1, .string r2], .int .i64 r3]) ∧ Below w.heap.size w w' := by
 have hu27 := Tryz.underlying27; have HB := Aside0.mk (Below.refl w.heap.size w); have H : ((lex_Scan.f k a0).bind fun bt274 => (if bt274.2 = 0 then ((addr_Of.f k bt274.1).bind fun bt278 => (some (bt278.1, bt278.2.1, bt278.2.2))) else (some ((⟨#[]⟩ : ByteArray), (⟨#[]⟩ : ByteArray), 130)))) = some (r1, r2, r3) := h; clear h; replace H := Option.bind_eq_some_iff.mp H; obtain ⟨⟨t274, t275⟩, A20, H⟩ := H; replace H : (if t275 = 0 then ((addr_Of.f k t274).bind fun bt278 => (some (bt278.1, bt278.2.1, bt278.2.2))) else (some ((⟨#[]⟩ : ByteArray), (⟨#[]⟩ : ByteArray), 130))) = some (r1, r2, r3) := H; have A2 := Aside0.mk A20; clear A20
 by_cases c3 : t275 = 0
 ·rw [if_pos c3] at H; have c3b0 := beq_iff_eq.mpr c3; have c3b1 := bne_eq_false_iff_eq.mpr c3; clear c3; replace H := Option.bind_eq_some_iff.mp H; obtain ⟨⟨t278, t279, t280⟩, A40, H⟩ := H; replace H : (some (t278, t279, t280)) = some (r1, r2, r3) := H; have A4 := Aside0.mk A40; clear A40; simp only [Option.some.injEq, Prod.mk.injEq] at H; obtain ⟨rfl, rfl, rfl⟩ := H
  go_enter Tryz.func26, Tryz.ntmps26
  go_wp2_with (first | ((with_reducible refine gate_dst (N := 2) rfl ?_); refine box_event ?hg (N := 2) ?hd (cs := #[.string (⟨#[]⟩ : ByteArray), .string (⟨#[]⟩ : ByteArray)]) (t := 27) ?hr ?_; (case hd => rfl); (case hg => rfl); (case hr => first | (go_simp; done) | (go_simp; rfl)); intro gb273 hg w5 hbox hb; have n0_ := Aside0.mk (below_step bw hb); have n1_ := Aside0.mk (hbox); have n2_ := Aside0.mk ((by rw [hg]; exact (below_size bw) : w.heap.size ≤ gb273)); have n3_ := Aside0.mk ((by rw [hg]; exact (below_size bw) : w.heap.size ≤ gb273)); clear HB; have HB := n0_; have BK273 := n1_; have GW273 := n2_; have GE273 := n3_; clear n0_ n1_ n2_ n3_; clear hb hbox hg) | ((with_reducible refine gate_callee (f := 44) rfl ?_); refine goesL_ (some 8) rfl rfl Tryz.func44 (by kernel_rfl) rfl #[.string a0] rfl am ?_; (with_reducible refine (lex_Scan.calls k a0 t274 t275 _ A2.out).mono ?_); rintro e w6 ⟨v276, rfl, ho0, hb⟩; refine ⟨_, rfl, ?_⟩; have n0_ := Aside0.mk (Kd.R_lower ho0 (below_size bwS)); have n1_ := Aside0.mk (blk_below (g := gb273) (o := .cells #[.string (⟨#[]⟩ : ByteArray), .string (⟨#[]⟩ : ByteArray)] 27 (0, 0)) bk hb); have n2_ := Aside0.mk (below_step bwS hb); clear BK273; clear HB; have HO277 := n0_; have BK273 := n1_; have HB := n2_; clear n0_ n1_ n2_; (try clear hb); (try clear hb2); (try clear hk); (try clear hi); (try clear ho0); obtain ⟨Ao7, co7, eo7⟩ := Kd.R_slice HO277.out; subst eo7) | ((with_reducible refine gate_callee (f := 45) rfl ?_); refine goesL_ (some 15) rfl rfl Tryz.func45 (by kernel_rfl) rfl #[.slice Ao7 t274.length co7] rfl am ?_; (with_reducible refine (addr_Of.calls k _ _ t274 t278 t279 t280 _ ?side1 ?side2 A4.out).mono ?_); (case side1 => repeat (first | exact (Kd.R_reads' HO277.out).2.2 | (with_reducible refine Kd.C_alloc ?_ _) | (with_reducible refine Kd.C_drewN ?_ _) | (with_reducible refine Kd.C_drew ?_))); (case side2 => exact (Kd.R_reads' HO277.out).2.1); rintro e w8 ⟨rfl, hb⟩; refine ⟨_, rfl, ?_⟩; have n0_ := Aside0.mk (Kd.R_below (ra HO277.out) hb); have n1_ := Aside0.mk (blk_below (g := gb273) (o := .cells #[.string (⟨#[]⟩ : ByteArray), .string (⟨#[]⟩ : ByteArray)] 27 (0, 0)) bk hb); have n2_ := Aside0.mk (below_step bwS hb); clear HO277; clear BK273; clear HB; have HO277 := n0_; have BK273 := n1_; have HB := n2_; clear n0_ n1_ n2_; (try clear hb); (try clear hb2); (try clear hk); (try clear hi); have hcz9_0 : w8.cell? ⟨gb273, 0, none⟩ = some (.string (⟨#[]⟩ : ByteArray)) := (blk_cell BK273.out 0).trans rfl; have hcz9_1 : w8.cell? ⟨gb273, 1, none⟩ = some (.string (⟨#[]⟩ : ByteArray)) := (blk_cell BK273.out 1).trans rfl; have hfz9_0 := blk_frozen BK273.out 0; have hfz9_1 := blk_frozen BK273.out 1))
  refine bodyPost_ret (results_ct rfl _ _ gb273 27 #[.string t278, .string t279] (0, 0) _ rfl (by (with_reducible repeat (first | refine blk_drewN ?_ _ | refine blk_drew ?_ | refine blk_alloc ?_ _)); refine blk_put (cs := #[.string t278, .string (⟨#[]⟩ : ByteArray)]) ?_ 1 _ rfl; (with_reducible repeat (first | refine blk_drewN ?_ _ | refine blk_drew ?_ | refine blk_alloc ?_ _)); exact blk_put (cs := #[.string (⟨#[]⟩ : ByteArray), .string (⟨#[]⟩ : ByteArray)]) bk 0 _ rfl) Tryz.underlying27 rfl (by kernel_rfl)) rfl ?_; exact ⟨ew, bwS⟩
 rw [if_neg c3] at H; have c3b0 := beq_eq_false_iff_ne.mpr c3; have c3b1 := bne_iff_ne.mpr c3; simp only [Option.some.injEq, Prod.mk.injEq] at H; obtain ⟨rfl, rfl, rfl⟩ := H
 go_enter Tryz.func26, Tryz.ntmps26
 go_wp2_with (first | ((with_reducible refine gate_dst (N := 2) rfl ?_); refine box_event ?hg (N := 2) ?hd (cs := #[.string (⟨#[]⟩ : ByteArray), .string (⟨#[]⟩ : ByteArray)]) (t := 27) ?hr ?_; (case hd => rfl); (case hg => rfl); (case hr => first | (go_simp; done) | (go_simp; rfl)); intro gb273 hg w10 hbox hb; have n0_ := Aside0.mk (below_step bw hb); have n1_ := Aside0.mk (hbox); have n2_ := Aside0.mk ((by rw [hg]; exact (below_size bw) : w.heap.size ≤ gb273)); have n3_ := Aside0.mk ((by rw [hg]; exact (below_size bw) : w.heap.size ≤ gb273)); clear HB; have HB := n0_; have BK273 := n1_; have GW273 := n2_; have GE273 := n3_; clear n0_ n1_ n2_ n3_; clear hb hbox hg) | ((with_reducible refine gate_callee (f := 44) rfl ?_); refine goesL_ (some 8) rfl rfl Tryz.func44 (by kernel_rfl) rfl #[.string a0] rfl am ?_; (with_reducible refine (lex_Scan.calls k a0 t274 t275 _ A2.out).mono ?_); rintro e w11 ⟨v276, rfl, ho0, hb⟩; refine ⟨_, rfl, ?_⟩; have n0_ := Aside0.mk (Kd.R_lower ho0 (below_size bwS)); have n1_ := Aside0.mk (blk_below (g := gb273) (o := .cells #[.string (⟨#[]⟩ : ByteArray), .string (⟨#[]⟩ : ByteArray)] 27 (0, 0)) bk hb); have n2_ := Aside0.mk (below_step bwS hb); clear BK273; clear HB; have HO277 := n0_; have BK273 := n1_; have HB := n2_; clear n0_ n1_ n2_; (try clear hb); (try clear hb2); (try clear hk); (try clear hi); (try clear ho0); have hcz12_0 : w11.cell? ⟨gb273, 0, none⟩ = some (.string (⟨#[]⟩ : ByteArray)) := (blk_cell BK273.out 0).trans rfl; have hcz12_1 : w11.cell? ⟨gb273, 1, none⟩ = some (.string (⟨#[]⟩ : ByteArray)) := (blk_cell BK273.out 1).trans rfl; have hfz12_0 := blk_frozen BK273.out 0; have hfz12_1 := blk_frozen BK273.out 1))
 refine bodyPost_ret (results_ct rfl _ _ gb273 27 #[.string (⟨#[]⟩ : ByteArray), .string (⟨#[]⟩ : ByteArray)] (0, 0) _ rfl (by (with_reducible repeat (first | refine blk_drewN ?_ _ | refine blk_drew ?_ | refine blk_alloc ?_ _)); refine blk_put (cs := #[.string (⟨#[]⟩ : ByteArray), .string (⟨#[]⟩ : ByteArray)]) ?_ 1 _ rfl; (with_reducible repeat (first | refine blk_drewN ?_ _ | refine blk_drew ?_ | refine blk_alloc ?_ _)); exact blk_put (cs := #[.string (⟨#[]⟩ : ByteArray), .string (⟨#[]⟩ : ByteArray)]) bk 0 _ rfl) Tryz.underlying27 rfl (by kernel_rfl)) rfl ?_; exact ⟨ew, bwS⟩

def nets_digit.f (a0 : Int) : Option (Bool) := if a0 ≥ 48 then (some (decide (a0 ≤ 57))) else (some false)
set_option maxHeartbeats 8000000 in
set_option maxRecDepth 100000 in
theorem nets_digit.calls (a0 : Int) (r : Bool) (w : World) (h : nets_digit.f a0 = some r) :
  Calls Tryz.prog 98 #[.int .u8 a0] w fun e w' => e = .returned (.bool r) ∧ Drawn0 w w' := by
 have H : (if a0 ≥ 48 then (some (decide (a0 ≤ 57))) else (some false)) = some r := h; clear h
 by_cases c2 : a0 ≥ 48
 ·rw [if_pos c2] at H; have c2b0 : decide (48 ≤ a0) = true := decide_eq_true c2; clear c2; obtain rfl := Option.some.inj H
  go_enter Tryz.func98, Tryz.ntmps98
  go_wp2
  go_ret
  exact ⟨cl, d0⟩
 rw [if_neg c2] at H; have c2b0 : decide (48 ≤ a0) = false := decide_eq_false c2; clear c2; obtain rfl := Option.some.inj H
 go_enter Tryz.func98, Tryz.ntmps98
 go_wp2
 go_ret
 exact ⟨cl, d0⟩

end Go.Proofs.YtnnlhpmkfijppaaGreatDoor.Fn
namespace Go.Proofs.YtnnlhpmkfijppaaGreatDoor.Fn
open Go.RowKit Go.Proofs.YtnnlhpmkfijppaaGreatDoorW.PrintWords Go.Proofs.YtnnlhpmkfijppaaGreatDoorW.PrintLast Go.Proofs.YtnnlhpmkfijppaaGreatDoorW.PrintMore
attribute [local go_sem] max2_int min2_int max_two min_two max_three min_three max_four min_four
set_option linter.unusedVariables false
set_option linter.unusedSimpArgs false

mutual
def nets_size.j1 : Nat → ByteArray → Int → Int → Option (Int × Int × Int)
 | 0, _, _, _ => none
 | k + 1, x0, x2, x3 => if x3 = 0 then (some (0, 0, 3)) else (if x3 > 9 then (some (0, 0, 2)) else (if x3 = (x0.size : Int) then (some (0, 0, 9)) else (if 0 ≤ x3 then (if x3 < (x0.size : Int) then (if (bt x0 x3) = 58 then (if x3 > 1 then (if 0 < (x0.size : Int) then (if (bt x0 0) = 48 then (some (0, 0, 3)) else (nets_size.j2 k x0 x2 x3)) else (none)) else (nets_size.j2 k x0 x2 x3)) else (some (0, 0, 3))) else (none)) else (none))))
def nets_size.j2 : Nat → ByteArray → Int → Int → Option (Int × Int × Int)
 | 0, _, _, _ => none
 | k + 1, x0, x2, x3 => nets_size.l1 k x0 x2 x3 x3 0
def nets_size.l1 : Nat → ByteArray → Int → Int → Int → Int → Option (Int × Int × Int)
 | 0, _, _, _, _, _ => none
 | k + 1, x0, x2, x3, x45, x46 => if x46 < x45 then (if 0 ≤ x46 then (if x46 < (x0.size : Int) then (nets_size.l1 k x0 (wrap64 ((wrap64 (x2 * 10)) + (((bt x0 x46) - 48) % 256))) x3 x45 (wrap64 (x46 + 1))) else (none)) else (none)) else (some (x2, wrap64 (x3 + 1), 0))
def nets_size.l0 : Nat → ByteArray → Int → Int → Option (Int × Int × Int)
 | 0, _, _, _ => none
 | k + 1, x0, x2, x3 => if x3 < (x0.size : Int) then (if 0 ≤ x3 then ((nets_digit.f (bt x0 x3)).bind fun t189 => (if t189 = true then (nets_size.l0 k x0 x2 (wrap64 (x3 + 1))) else (nets_size.j1 k x0 x2 x3))) else (none)) else (nets_size.j1 k x0 x2 x3)
end
def nets_size.f (k : Nat) (a0 : ByteArray) : Option (Int × Int × Int) := if a0.toList = ([] : List UInt8) then (some (0, 0, 9)) else (nets_size.l0 k a0 0 0)
theorem nets_size.mono_l : ∀ k, (∀ y0 y1 y2, LeO (nets_size.j1 k y0 y1 y2) (nets_size.j1 (k + 1) y0 y1 y2)) ∧ (∀ y0 y1 y2, LeO (nets_size.j2 k y0 y1 y2) (nets_size.j2 (k + 1) y0 y1 y2)) ∧ (∀ y0 y1 y2 y3 y4, LeO (nets_size.l1 k y0 y1 y2 y3 y4) (nets_size.l1 (k + 1) y0 y1 y2 y3 y4)) ∧ (∀ y0 y1 y2, LeO (nets_size.l0 k y0 y1 y2) (nets_size.l0 (k + 1) y0 y1 y2))
 | 0 => ⟨fun _ _ _ r h => by simp [nets_size.j1] at h, fun _ _ _ r h => by simp [nets_size.j2] at h, fun _ _ _ _ _ r h => by simp [nets_size.l1] at h, fun _ _ _ r h => by simp [nets_size.l0] at h⟩
 | k + 1 => by
  obtain ⟨ih0, ih1, ih2, ih3⟩ := nets_size.mono_l k; refine ⟨?_, ?_, ?_, ?_⟩
  ·intro y0 y1 y2; unfold nets_size.j1
   repeat' first
   | (with_reducible exact ih0 _ _ _)
   | (with_reducible exact ih1 _ _ _)
   | (with_reducible exact ih2 _ _ _ _ _)
   | (with_reducible exact ih3 _ _ _)
   | (with_reducible exact LeO.refl _)
   | (with_reducible exact LeO.none _)
   | (with_reducible refine LeO.ite ?_ ?_)
   | (with_reducible refine LeO.bind ?_ (fun _ => ?_))
   | exact ih0 _ _ _
   | exact ih1 _ _ _
   | exact ih2 _ _ _ _ _
   | exact ih3 _ _ _
   | exact LeO.none _
   | refine LeO.ite ?_ ?_
   | refine LeO.bind ?_ (fun _ => ?_)
  ·intro y0 y1 y2; unfold nets_size.j2
   repeat' first
   | (with_reducible exact ih0 _ _ _)
   | (with_reducible exact ih1 _ _ _)
   | (with_reducible exact ih2 _ _ _ _ _)
   | (with_reducible exact ih3 _ _ _)
   | (with_reducible exact LeO.refl _)
   | (with_reducible exact LeO.none _)
   | (with_reducible refine LeO.ite ?_ ?_)
   | (with_reducible refine LeO.bind ?_ (fun _ => ?_))
   | exact ih0 _ _ _
   | exact ih1 _ _ _
   | exact ih2 _ _ _ _ _
   | exact ih3 _ _ _
   | exact LeO.none _
   | refine LeO.ite ?_ ?_
   | refine LeO.bind ?_ (fun _ => ?_)
  ·intro y0 y1 y2 y3 y4; unfold nets_size.l1
   repeat' first
   | (with_reducible exact ih0 _ _ _)
   | (with_reducible exact ih1 _ _ _)
   | (with_reducible exact ih2 _ _ _ _ _)
   | (with_reducible exact ih3 _ _ _)
   | (with_reducible exact LeO.refl _)
   | (with_reducible exact LeO.none _)
   | (with_reducible refine LeO.ite ?_ ?_)
   | (with_reducible refine LeO.bind ?_ (fun _ => ?_))
   | exact ih0 _ _ _
   | exact ih1 _ _ _
   | exact ih2 _ _ _ _ _
   | exact ih3 _ _ _
   | exact LeO.none _
   | refine LeO.ite ?_ ?_
   | refine LeO.bind ?_ (fun _ => ?_)
  intro y0 y1 y2; unfold nets_size.l0
  repeat' first
  | (with_reducible exact ih0 _ _ _)
  | (with_reducible exact ih1 _ _ _)
  | (with_reducible exact ih2 _ _ _ _ _)
  | (with_reducible exact ih3 _ _ _)
  | (with_reducible exact LeO.refl _)
  | (with_reducible exact LeO.none _)
  | (with_reducible refine LeO.ite ?_ ?_)
  | (with_reducible refine LeO.bind ?_ (fun _ => ?_))
  | exact ih0 _ _ _
  | exact ih1 _ _ _
  | exact ih2 _ _ _ _ _
  | exact ih3 _ _ _
  | exact LeO.none _
  | refine LeO.ite ?_ ?_
  | refine LeO.bind ?_ (fun _ => ?_)
theorem nets_size.mono : ∀ a0 k, LeO (nets_size.f k a0) (nets_size.f (k + 1) a0) := by
 intro a0 k; obtain ⟨ih0, ih1, ih2, ih3⟩ := nets_size.mono_l k; unfold nets_size.f
 repeat' first
   | (with_reducible exact ih0 _ _ _)
   | (with_reducible exact ih1 _ _ _)
   | (with_reducible exact ih2 _ _ _ _ _)
   | (with_reducible exact ih3 _ _ _)
   | (with_reducible exact LeO.refl _)
   | (with_reducible exact LeO.none _)
   | (with_reducible refine LeO.ite ?_ ?_)
   | (with_reducible refine LeO.bind ?_ (fun _ => ?_))
   | exact ih0 _ _ _
   | exact ih1 _ _ _
   | exact ih2 _ _ _ _ _
   | exact ih3 _ _ _
   | exact LeO.none _
   | refine LeO.ite ?_ ?_
   | refine LeO.bind ?_ (fun _ => ?_)
set_option maxHeartbeats 8000000 in
set_option maxRecDepth 100000 in
theorem nets_size.calls (k : Nat) (a0 : ByteArray) (r1 : Int) (r2 : Int) (r3 : Int) (w : World) (h : nets_size.f k a0 = some (r1, r2, r3)) :
  Calls Tryz.prog 82 #[.string a0] w fun e w' => e = .returned (.tuple #[.int .i64 r1, .int .i64 r2, .int .i64 r3]) ∧ Drawn0 w w' := by
 have H : (if a0.toList = ([] : List UInt8) then (some (0, 0, 9)) else (nets_size.l0 k a0 0 0)) = some (r1, r2, r3) := h; clear h
 by_cases c2 : a0.toList = ([] : List UInt8)
 ·rw [if_pos c2] at H; have c2b0 := beq_iff_eq.mpr c2; have c2b1 := bne_eq_false_iff_eq.mpr c2; clear c2; simp only [Option.some.injEq, Prod.mk.injEq] at H; obtain ⟨rfl, rfl, rfl⟩ := H
  go_enter Tryz.func82, Tryz.ntmps82
  go_wp2
  go_ret3
  exact ⟨cl, d0⟩
 rw [if_neg c2] at H; have c2b0 := beq_eq_false_iff_ne.mpr c2; have c2b1 := bne_iff_ne.mpr c2; have HC3 := Aside0.mk H; clear H
 go_enter Tryz.func82, Tryz.ntmps82
 go_upto_block 0 with (fail)
 go_cut [3] (fun v3 wc => ∃ (kq : Nat) (x3_2 : Int), v3 = .int .i64 x3_2 ∧ Aside0 (nets_size.j1 kq a0 0 x3_2 = some (r1, r2, r3)) ∧ Aside0 (kq ≤ k) ∧ Drawn0 w wc)
 case first =>
  have H := HC3.out; clear HC3; have H' := Aside0.mk H; clear H
  go_wp2
  go_loopg [3] k (fun kq v3 w' => ∃ (x3_1 : Int), v3 = .int .i64 x3_1 ∧ Aside0 (nets_size.l0 kq a0 0 x3_1 = some (r1, r2, r3)) ∧ Aside0 (kq ≤ k) ∧ Drawn0 w w')
  case atStart => exact ⟨(0), cl, H', ⟨Nat.le_refl _⟩, d0⟩
  case round =>
   clear H'
   try clear c2
   try clear c2b0
   try clear c2b1
   try clear p2
   obtain ⟨x3_1, rfl, HA, HK1, ⟨m1, rfl⟩⟩ := hrel; cases gk with
   | zero => exact absurd HA.out (by simp [nets_size.l0])
   | succ k1 =>
    have H := HA.out; clear HA; simp only [nets_size.l0] at H
    by_cases c4 : x3_1 < (a0.size : Int)
    ·rw [if_pos c4] at H; have c4b0 := decide_eq_true c4; clear c4
     (first | rw [c4b0] | (simp only [i64_w, i32_w]; rw [c4b0]) | skip)
     by_cases c5 : 0 ≤ x3_1
     ·rw [if_pos c5] at H; have c5b0 := decide_eq_true c5; clear c5; replace H := Option.bind_eq_some_iff.mp H; obtain ⟨t189, A70, H⟩ := H; have A7 := Aside0.mk A70; clear A70
      by_cases c8 : t189 = true
      ·subst c8; rw [if_pos rfl] at H; have H' := Aside0.mk H; clear H; have p6 : 0 ≤ (x3_1 : Int) := od; have q6 : x3_1 < (a0.size : Int) := od; have hx6 := bt_at a0 x3_1; replace p6 := eq_true p6; replace q6 := eq_true q6
       go_wp2_with (first | (go_at_call 98; (with_reducible refine (nets_digit.calls (bt a0 x3_1) true _ A7.out).mono ?_); rintro e w' ⟨rfl, ⟨nd, rfl⟩⟩))
       go_roundg k1
       case measure => have := HK1.out; omega
       case rel => exact ⟨(wrap64 (x3_1 + 1)), cl, H', ⟨by have := HK1.out; omega⟩, d0⟩
      replace c8 := Bool.eq_false_iff.mpr c8; subst c8; rw [if_neg nft] at H; have H' := Aside0.mk H; clear H; have p6 : 0 ≤ (x3_1 : Int) := od; have q6 : x3_1 < (a0.size : Int) := od; have hx6 := bt_at a0 x3_1; replace p6 := eq_true p6; replace q6 := eq_true q6
      go_wp2_with (first | (go_at_call 98; (with_reducible refine (nets_digit.calls (bt a0 x3_1) false _ A7.out).mono ?_); rintro e w' ⟨rfl, ⟨nd, rfl⟩⟩))
      go_meet
      case rel => exact ⟨_, (x3_1), cl, H', ⟨by have := HK1.out; first | omega | exact Nat.le_refl _⟩, d0⟩
     rw [if_neg c5] at H; exact absurd H (by simp)
    rw [if_neg c4] at H; have c4b0 := decide_eq_false c4; clear c4
    (first | rw [c4b0] | (simp only [i64_w, i32_w]; rw [c4b0]) | skip)
    have H' := Aside0.mk H; clear H
    go_wp2
    go_meet
    case rel => exact ⟨_, (x3_1), cl, H', ⟨by have := HK1.out; first | omega | exact Nat.le_refl _⟩, d0⟩
 case rest =>
  clear HC3
  try clear c2
  try clear c2b0
  try clear c2b1
  try clear p2
  try clear c4
  try clear c4b0
  try clear c5
  try clear c5b0
  try clear p6
  try clear q6
  try clear hx6
  try clear c8
  try clear p2
  try clear p6
  try clear q6
  obtain ⟨kq, x3_2, rfl, HA, HJ2, ⟨mc2, rfl⟩⟩ := hcut; cases kq with
  | zero => exact absurd HA.out (by simp [nets_size.j1])
  | succ kj2 =>
   have H := HA.out; clear HA; simp only [nets_size.j1] at H; have HC9 := Aside0.mk H; clear H
   go_upto_block 2 with (fail)
   go_cut [2, 3] (fun v2 v3 wc => ∃ (kq : Nat) (x2_8 : Int) (x3_8 : Int), v2 = .int .i64 x2_8 ∧ v3 = .int .i64 x3_8 ∧ Aside0 (nets_size.j2 kq a0 x2_8 x3_8 = some (r1, r2, r3)) ∧ Aside0 (kq ≤ kj2) ∧ Drawn0 w wc)
   case first =>
    have H := HC9.out; clear HC9
    by_cases c10 : x3_2 = 0
    ·rw [if_pos c10] at H; have c10b0 := beq_iff_eq.mpr c10; have c10b1 := bne_eq_false_iff_eq.mpr c10; clear c10
     (first | rw [c10b0] | (simp only [i64_w, i32_w]; rw [c10b0]) | skip)
     simp only [Option.some.injEq, Prod.mk.injEq] at H; obtain ⟨rfl, rfl, rfl⟩ := H
     go_wp2
     go_ret3
     exact ⟨cl, d0⟩
    rw [if_neg c10] at H; have c10b0 := beq_eq_false_iff_ne.mpr c10; have c10b1 := bne_iff_ne.mpr c10
    (first | rw [c10b0] | (simp only [i64_w, i32_w]; rw [c10b0]) | skip)
    by_cases c11 : x3_2 > 9
    ·rw [if_pos c11] at H; have c11b0 : decide (9 < x3_2) = true := decide_eq_true c11; clear c11; simp only [Option.some.injEq, Prod.mk.injEq] at H; obtain ⟨rfl, rfl, rfl⟩ := H
     go_wp2
     go_ret3
     exact ⟨cl, d0⟩
    rw [if_neg c11] at H; have c11b0 : decide (9 < x3_2) = false := decide_eq_false c11; clear c11
    by_cases c12 : x3_2 = (a0.size : Int)
    ·rw [if_pos c12] at H; have c12b0 := beq_iff_eq.mpr c12; have c12b1 := bne_eq_false_iff_eq.mpr c12; clear c12; simp only [Option.some.injEq, Prod.mk.injEq] at H; obtain ⟨rfl, rfl, rfl⟩ := H
     go_wp2
     go_ret3
     exact ⟨cl, d0⟩
    rw [if_neg c12] at H; have c12b0 := beq_eq_false_iff_ne.mpr c12; have c12b1 := bne_iff_ne.mpr c12
    by_cases c13 : 0 ≤ x3_2
    ·rw [if_pos c13] at H; have c13b0 := decide_eq_true c13; clear c13
     by_cases c14 : x3_2 < (a0.size : Int)
     ·rw [if_pos c14] at H; have c14b0 := decide_eq_true c14; clear c14
      by_cases c16 : (bt a0 x3_2) = 58
      ·rw [if_pos c16] at H; have c16b0 := beq_iff_eq.mpr c16; have c16b1 := bne_eq_false_iff_eq.mpr c16; clear c16
       by_cases c17 : x3_2 > 1
       ·rw [if_pos c17] at H; have c17b0 : decide (1 < x3_2) = true := decide_eq_true c17; clear c17
        by_cases c18 : 0 < (a0.size : Int)
        ·rw [if_pos c18] at H; have c18b0 := decide_eq_true c18; have c18b1 : decide (0 < a0.size) = true := decide_eq_true (by omega); clear c18
         by_cases c20 : (bt a0 0) = 48
         ·rw [if_pos c20] at H; have c20b0 := beq_iff_eq.mpr c20; have c20b1 := bne_eq_false_iff_eq.mpr c20; clear c20; simp only [Option.some.injEq, Prod.mk.injEq] at H; obtain ⟨rfl, rfl, rfl⟩ := H; have p15 : 0 ≤ (x3_2 : Int) := od; have q15 : x3_2 < (a0.size : Int) := od; have hx15 := bt_at a0 x3_2; replace p15 := eq_true p15; replace q15 := eq_true q15; have p19 : 0 ≤ (0 : Int) := (by omega)
          have q19 : 0 < a0.size := (by have : (0 : Int) < (a0.size : Int) := od; omega)
          have hx19 : ∀ h : 0 < a0.size, ((a0[0]'h).toNat : Int) = bt a0 0 := bt_at a0 0; clear p19; have qi19 : (0 < (a0.size : Int)) = True := eq_true (od); replace q19 := eq_true q19
          go_wp2
          go_ret3
          exact ⟨cl, d0⟩
         rw [if_neg c20] at H; have c20b0 := beq_eq_false_iff_ne.mpr c20; have c20b1 := bne_iff_ne.mpr c20; have H' := Aside0.mk H; clear H; have p15 : 0 ≤ (x3_2 : Int) := od; have q15 : x3_2 < (a0.size : Int) := od; have hx15 := bt_at a0 x3_2; replace p15 := eq_true p15; replace q15 := eq_true q15; have p19 : 0 ≤ (0 : Int) := (by omega)
         have q19 : 0 < a0.size := (by have : (0 : Int) < (a0.size : Int) := od; omega)
         have hx19 : ∀ h : 0 < a0.size, ((a0[0]'h).toNat : Int) = bt a0 0 := bt_at a0 0; clear p19; have qi19 : (0 < (a0.size : Int)) = True := eq_true (od); replace q19 := eq_true q19
         go_wp2
         go_meet
         case rel => exact ⟨_, (0), (x3_2), cl, cl, H', ⟨by have := HJ2.out; first | omega | exact Nat.le_refl _⟩, d0⟩
        rw [if_neg c18] at H; exact absurd H (by simp)
       rw [if_neg c17] at H; have c17b0 : decide (1 < x3_2) = false := decide_eq_false c17; clear c17; have H' := Aside0.mk H; clear H; have p15 : 0 ≤ (x3_2 : Int) := od; have q15 : x3_2 < (a0.size : Int) := od; have hx15 := bt_at a0 x3_2; replace p15 := eq_true p15; replace q15 := eq_true q15
       go_wp2
       go_meet
       case rel => exact ⟨_, (0), (x3_2), cl, cl, H', ⟨by have := HJ2.out; first | omega | exact Nat.le_refl _⟩, d0⟩
      rw [if_neg c16] at H; have c16b0 := beq_eq_false_iff_ne.mpr c16; have c16b1 := bne_iff_ne.mpr c16; simp only [Option.some.injEq, Prod.mk.injEq] at H; obtain ⟨rfl, rfl, rfl⟩ := H; have p15 : 0 ≤ (x3_2 : Int) := od; have q15 : x3_2 < (a0.size : Int) := od; have hx15 := bt_at a0 x3_2; replace p15 := eq_true p15; replace q15 := eq_true q15
      go_wp2
      go_ret3
      exact ⟨cl, d0⟩
     rw [if_neg c14] at H; exact absurd H (by simp)
    rw [if_neg c13] at H; exact absurd H (by simp)
   case rest =>
    clear HC9
    try clear c1
    try clear p1
    try clear q1
    try clear hx1
    try clear qi1
    try clear c2
    try clear c2b0
    try clear c2b1
    try clear p2
    try clear c4
    try clear c4b0
    try clear c5
    try clear c5b0
    try clear p6
    try clear q6
    try clear hx6
    try clear c8
    try clear c10
    try clear c10b0
    try clear c10b1
    try clear c11
    try clear c11b0
    try clear c12
    try clear c12b0
    try clear c12b1
    try clear c13
    try clear c13b0
    try clear c14
    try clear c14b0
    try clear p15
    try clear q15
    try clear hx15
    try clear c16
    try clear c16b0
    try clear c16b1
    try clear c17
    try clear c17b0
    try clear c18
    try clear c18b0
    try clear c18b1
    try clear p19
    try clear q19
    try clear hx19
    try clear qi19
    try clear c20
    try clear c20b0
    try clear c20b1
    try clear p15
    try clear p19
    try clear p2
    try clear p6
    try clear q15
    try clear q19
    try clear q6
    obtain ⟨kq, x2_8, x3_8, rfl, rfl, HA, HJ8, ⟨mc8, rfl⟩⟩ := hcut; cases kq with
    | zero => exact absurd HA.out (by simp [nets_size.j2])
    | succ kj8 =>
     have H := HA.out; clear HA; simp only [nets_size.j2] at H; have H' := Aside0.mk H; clear H
     go_wp2
     go_loopg [2, 46] kj8 (fun kq v2 v46 w' => ∃ (x2_3 : Int) (x46_3 : Int), v2 = .int .i64 x2_3 ∧ v46 = .int .i64 x46_3 ∧ Aside0 (nets_size.l1 kq a0 x2_3 x3_8 x3_8 x46_3 = some (r1, r2, r3)) ∧ Aside0 (kq ≤ kj8) ∧ Drawn0 w w')
     case atStart => exact ⟨(x2_8), (0), cl, cl, H', ⟨Nat.le_refl _⟩, d0⟩
     case round =>
      clear H'
      try clear c1
      try clear p1
      try clear q1
      try clear hx1
      try clear qi1
      try clear c2
      try clear c2b0
      try clear c2b1
      try clear p2
      try clear c4
      try clear c4b0
      try clear c5
      try clear c5b0
      try clear p6
      try clear q6
      try clear hx6
      try clear c8
      try clear c10
      try clear c10b0
      try clear c10b1
      try clear c11
      try clear c11b0
      try clear c12
      try clear c12b0
      try clear c12b1
      try clear c13
      try clear c13b0
      try clear c14
      try clear c14b0
      try clear p15
      try clear q15
      try clear hx15
      try clear c16
      try clear c16b0
      try clear c16b1
      try clear c17
      try clear c17b0
      try clear c18
      try clear c18b0
      try clear c18b1
      try clear p19
      try clear q19
      try clear hx19
      try clear qi19
      try clear c20
      try clear c20b0
      try clear c20b1
      try clear p1
      try clear p15
      try clear p19
      try clear p2
      try clear p6
      try clear q1
      try clear q15
      try clear q19
      try clear q6
      obtain ⟨x2_3, x46_3, rfl, rfl, HA, HK3, ⟨m3, rfl⟩⟩ := hrel; cases gk with
      | zero => exact absurd HA.out (by simp [nets_size.l1])
      | succ k3 =>
       have H := HA.out; clear HA; simp only [nets_size.l1] at H
       by_cases c21 : x46_3 < x3_8
       ·rw [if_pos c21] at H; have c21b0 := decide_eq_true c21; clear c21
        by_cases c22 : 0 ≤ x46_3
        ·rw [if_pos c22] at H; have c22b0 := decide_eq_true c22; clear c22
         by_cases c23 : x46_3 < (a0.size : Int)
         ·rw [if_pos c23] at H; have c23b0 := decide_eq_true c23; clear c23; have H' := Aside0.mk H; clear H; have p24 : 0 ≤ (x46_3 : Int) := od; have q24 : x46_3 < (a0.size : Int) := od; have hx24 := bt_at a0 x46_3; replace p24 := eq_true p24; replace q24 := eq_true q24
          go_wp2
          go_roundg k3
          case measure => have := HJ2.out; have := HJ8.out; have := HK3.out; omega
          case rel => exact ⟨(wrap64 ((wrap64 (x2_3 * 10)) + (((bt a0 x46_3) - 48) % 256))), (wrap64 (x46_3 + 1)), cl, cl, H', ⟨by have := HJ2.out; have := HJ8.out; have := HK3.out; omega⟩, d0⟩
         rw [if_neg c23] at H; exact absurd H (by simp)
        rw [if_neg c22] at H; exact absurd H (by simp)
       rw [if_neg c21] at H; have c21b0 := decide_eq_false c21; clear c21; simp only [Option.some.injEq, Prod.mk.injEq] at H; obtain ⟨rfl, rfl, rfl⟩ := H
       go_wp2
       go_ret3
       exact ⟨cl, d0⟩

end Go.Proofs.YtnnlhpmkfijppaaGreatDoor.Fn
namespace Go.Proofs.YtnnlhpmkfijppaaGreatDoor.Fn
open Go.RowKit Go.Proofs.YtnnlhpmkfijppaaGreatDoorW.PrintWords Go.Proofs.YtnnlhpmkfijppaaGreatDoorW.PrintLast Go.Proofs.YtnnlhpmkfijppaaGreatDoorW.PrintMore
attribute [local go_sem] max2_int min2_int max_two min_two max_three min_three max_four min_four
set_option linter.unusedVariables false
set_option linter.unusedSimpArgs false
def nets_Take.f (k : Nat) (a0 : ByteArray) : Option (ByteArray × ByteArray × Int) := (nets_size.f k a0).bind fun bt190 => (if bt190.2.2 = 0 then (if 0 ≤ bt190.2.1 then (if bt190.2.1 ≤ (a0.size : Int) then (if bt190.1 ≥ ((a0.extract (bt190.2.1 : Int).toNat a0.size).size : Int) then (some ((⟨#[]⟩ : ByteArray), (⟨#[]⟩ : ByteArray), 9)) else (if 0 ≤ bt190.1 then (if bt190.1 < ((a0.extract (bt190.2.1 : Int).toNat a0.size).size : Int) then (if (bt (a0.extract (bt190.2.1 : Int).toNat a0.size) bt190.1) = 44 then (if bt190.1 ≤ ((a0.extract (bt190.2.1 : Int).toNat a0.size).size : Int) then (if 0 ≤ (wrap64 (bt190.1 + 1)) then (if (wrap64 (bt190.1 + 1)) ≤ ((a0.extract (bt190.2.1 : Int).toNat a0.size).size : Int) then (some ((a0.extract (bt190.2.1 : Int).toNat a0.size).extract 0 (bt190.1 : Int).toNat, (a0.extract (bt190.2.1 : Int).toNat a0.size).extract ((wrap64 (bt190.1 + 1)) : Int).toNat (a0.extract (bt190.2.1 : Int).toNat a0.size).size, 0)) else (none)) else (none)) else (none)) else (some ((⟨#[]⟩ : ByteArray), (⟨#[]⟩ : ByteArray), 3))) else (none)) else (none))) else (none)) else (none)) else (some ((⟨#[]⟩ : ByteArray), (⟨#[]⟩ : ByteArray), bt190.2.2)))
theorem nets_Take.mono : ∀ a0 k, LeO (nets_Take.f k a0) (nets_Take.f (k + 1) a0) := by
 intro a0 k; unfold nets_Take.f
 repeat' first
   | (with_reducible exact nets_size.mono _ _)
   | (with_reducible exact LeO.refl _)
   | (with_reducible exact LeO.none _)
   | (with_reducible refine LeO.ite ?_ ?_)
   | (with_reducible refine LeO.bind ?_ (fun _ => ?_))
   | exact nets_size.mono _ _
   | exact LeO.none _
   | refine LeO.ite ?_ ?_
   | refine LeO.bind ?_ (fun _ => ?_)
set_option maxHeartbeats 8000000 in
set_option maxRecDepth 100000 in
theorem nets_Take.calls (k : Nat) (a0 : ByteArray) (r1 : ByteArray) (r2 : ByteArray) (r3 : Int) (w : World) (h : nets_Take.f k a0 = some (r1, r2, r3)) :
  Calls Tryz.prog 63 #[.string a0] w fun e w' => e = .returned (.tuple #[.string r1, .string r2, .int .i64 r3]) ∧ Drawn0 w w' := by
 have H : ((nets_size.f k a0).bind fun bt190 => (if bt190.2.2 = 0 then (if 0 ≤ bt190.2.1 then (if bt190.2.1 ≤ (a0.size : Int) then (if bt190.1 ≥ ((a0.extract (bt190.2.1 : Int).toNat a0.size).size : Int) then (some ((⟨#[]⟩ : ByteArray), (⟨#[]⟩ : ByteArray), 9)) else (if 0 ≤ bt190.1 then (if bt190.1 < ((a0.extract (bt190.2.1 : Int).toNat a0.size).size : Int) then (if (bt (a0.extract (bt190.2.1 : Int).toNat a0.size) bt190.1) = 44 then (if bt190.1 ≤ ((a0.extract (bt190.2.1 : Int).toNat a0.size).size : Int) then (if 0 ≤ (wrap64 (bt190.1 + 1)) then (if (wrap64 (bt190.1 + 1)) ≤ ((a0.extract (bt190.2.1 : Int).toNat a0.size).size : Int) then (some ((a0.extract (bt190.2.1 : Int).toNat a0.size).extract 0 (bt190.1 : Int).toNat, (a0.extract (bt190.2.1 : Int).toNat a0.size).extract ((wrap64 (bt190.1 + 1)) : Int).toNat (a0.extract (bt190.2.1 : Int).toNat a0.size).size, 0)) else (none)) else (none)) else (none)) else (some ((⟨#[]⟩ : ByteArray), (⟨#[]⟩ : ByteArray), 3))) else (none)) else (none))) else (none)) else (none)) else (some ((⟨#[]⟩ : ByteArray), (⟨#[]⟩ : ByteArray), bt190.2.2)))) = some (r1, r2, r3) := h; clear h; replace H := Option.bind_eq_some_iff.mp H; obtain ⟨⟨t190, t191, t192⟩, A20, H⟩ := H; replace H : (if t192 = 0 then (if 0 ≤ t191 then (if t191 ≤ (a0.size : Int) then (if t190 ≥ ((a0.extract (t191 : Int).toNat a0.size).size : Int) then (some ((⟨#[]⟩ : ByteArray), (⟨#[]⟩ : ByteArray), 9)) else (if 0 ≤ t190 then (if t190 < ((a0.extract (t191 : Int).toNat a0.size).size : Int) then (if (bt (a0.extract (t191 : Int).toNat a0.size) t190) = 44 then (if t190 ≤ ((a0.extract (t191 : Int).toNat a0.size).size : Int) then (if 0 ≤ (wrap64 (t190 + 1)) then (if (wrap64 (t190 + 1)) ≤ ((a0.extract (t191 : Int).toNat a0.size).size : Int) then (some ((a0.extract (t191 : Int).toNat a0.size).extract 0 (t190 : Int).toNat, (a0.extract (t191 : Int).toNat a0.size).extract ((wrap64 (t190 + 1)) : Int).toNat (a0.extract (t191 : Int).toNat a0.size).size, 0)) else (none)) else (none)) else (none)) else (some ((⟨#[]⟩ : ByteArray), (⟨#[]⟩ : ByteArray), 3))) else (none)) else (none))) else (none)) else (none)) else (some ((⟨#[]⟩ : ByteArray), (⟨#[]⟩ : ByteArray), t192))) = some (r1, r2, r3) := H; obtain ⟨es1_, hes1_⟩ : ∃ e_ : ByteArray, (a0.extract (t191 : Int).toNat a0.size) = e_ := ⟨_, rfl⟩
 rw [hes1_] at H; have A2 := Aside0.mk A20; clear A20
 by_cases c3 : t192 = 0
 ·rw [if_pos c3] at H; have c3b0 := beq_iff_eq.mpr c3; have c3b1 := bne_eq_false_iff_eq.mpr c3; clear c3
  by_cases c4 : 0 ≤ t191
  ·rw [if_pos c4] at H; have c4b0 := eq_true c4; have c4b1 := decide_eq_true c4; clear c4
   by_cases c5 : t191 ≤ (a0.size : Int)
   ·rw [if_pos c5] at H; have c5b0 := eq_true c5; have c5b1 := decide_eq_true c5; clear c5
    by_cases c6 : t190 ≥ (es1_.size : Int)
    ·rw [if_pos c6] at H; have c6b0 : decide ((es1_.size : Int) ≤ t190) = true := decide_eq_true c6; clear c6; simp only [Option.some.injEq, Prod.mk.injEq] at H; obtain ⟨rfl, rfl, rfl⟩ := H
     go_enter Tryz.func63, Tryz.ntmps63
     go_wp2_with (first | (go_at_call 82; (with_reducible refine (nets_size.calls k a0 t190 t191 t192 _ A2.out).mono ?_); rintro e w' ⟨rfl, ⟨nd, rfl⟩⟩; (try first | exact ⟨rfl, _, World.drewN_drewN _ _ _⟩ | exact ⟨rfl, _, Eq.trans (World.drewN_drewN _ _ _) (congrArg (World.drewN _) (Nat.add_assoc _ _ _))⟩)))
     repeat (go_quiet (first | (go_at_call 82; (with_reducible refine (nets_size.calls k a0 t190 t191 t192 _ A2.out).mono ?_); rintro e w' ⟨rfl, ⟨nd, rfl⟩⟩; (try first | exact ⟨rfl, _, World.drewN_drewN _ _ _⟩ | exact ⟨rfl, _, Eq.trans (World.drewN_drewN _ _ _) (congrArg (World.drewN _) (Nat.add_assoc _ _ _))⟩))); try go_wp2_with (first | (go_at_call 82; (with_reducible refine (nets_size.calls k a0 t190 t191 t192 _ A2.out).mono ?_); rintro e w' ⟨rfl, ⟨nd, rfl⟩⟩; (try first | exact ⟨rfl, _, World.drewN_drewN _ _ _⟩ | exact ⟨rfl, _, Eq.trans (World.drewN_drewN _ _ _) (congrArg (World.drewN _) (Nat.add_assoc _ _ _))⟩))))
     go_ret3
     exact ⟨cl, d0⟩
    rw [if_neg c6] at H; have c6b0 : decide ((es1_.size : Int) ≤ t190) = false := decide_eq_false c6; clear c6
    by_cases c7 : 0 ≤ t190
    ·rw [if_pos c7] at H; have c7b0 := decide_eq_true c7; clear c7
     by_cases c8 : t190 < (es1_.size : Int)
     ·rw [if_pos c8] at H; have c8b0 := decide_eq_true c8; clear c8
      by_cases c10 : (bt es1_ t190) = 44
      ·rw [if_pos c10] at H; have c10b0 := beq_iff_eq.mpr c10; have c10b1 := bne_eq_false_iff_eq.mpr c10; clear c10; have c11b0 := eq_true (od : 0 ≤ t190)
       by_cases c12 : t190 ≤ (es1_.size : Int)
       ·rw [if_pos c12] at H; have c12b0 := eq_true c12; have c12b1 := decide_eq_true c12; clear c12; obtain ⟨ji13, hji13⟩ : ∃ j_ : Int, (wrap64 (t190 + 1)) = j_ := ⟨_, rfl⟩
        replace H : (if 0 ≤ (ji13) then (if (ji13) ≤ (es1_.size : Int) then (some (es1_.extract 0 (t190 : Int).toNat, es1_.extract ((ji13) : Int).toNat es1_.size, 0)) else (none)) else (none)) = some (r1, r2, r3) := by first | (rw [hji13] at H; exact H) | (simp only [hji13] at H ⊢; exact H)
        (try rw [hji13] at A2)
        have hji13w : (IntKind.i64.wrap (t190 + 1)) = ji13 := (i64_w _).trans hji13
        by_cases c14 : 0 ≤ (ji13)
        ·rw [if_pos c14] at H; have c14b0 := eq_true c14; have c14b1 := decide_eq_true c14; clear c14
         by_cases c15 : (ji13) ≤ (es1_.size : Int)
         ·rw [if_pos c15] at H; have c15b0 := eq_true c15; have c15b1 := decide_eq_true c15; clear c15; simp only [Option.some.injEq, Prod.mk.injEq] at H; obtain ⟨rfl, rfl, rfl⟩ := H
          go_enter Tryz.func63, Tryz.ntmps63
          go_wp2_with (first | (go_at_call 82; (with_reducible refine (nets_size.calls k a0 t190 t191 t192 _ A2.out).mono ?_); rintro e w' ⟨rfl, ⟨nd, rfl⟩⟩; (try first | exact ⟨rfl, _, World.drewN_drewN _ _ _⟩ | exact ⟨rfl, _, Eq.trans (World.drewN_drewN _ _ _) (congrArg (World.drewN _) (Nat.add_assoc _ _ _))⟩); have p9 : 0 ≤ (t190 : Int) := od; have q9 : t190 < (es1_.size : Int) := od; have hx9 := bt_at es1_ t190; replace p9 := eq_true p9; replace q9 := eq_true q9))
          repeat (go_quiet (first | (go_at_call 82; (with_reducible refine (nets_size.calls k a0 t190 t191 t192 _ A2.out).mono ?_); rintro e w' ⟨rfl, ⟨nd, rfl⟩⟩; (try first | exact ⟨rfl, _, World.drewN_drewN _ _ _⟩ | exact ⟨rfl, _, Eq.trans (World.drewN_drewN _ _ _) (congrArg (World.drewN _) (Nat.add_assoc _ _ _))⟩); have p9 : 0 ≤ (t190 : Int) := od; have q9 : t190 < (es1_.size : Int) := od; have hx9 := bt_at es1_ t190; replace p9 := eq_true p9; replace q9 := eq_true q9)); try go_wp2_with (first | (go_at_call 82; (with_reducible refine (nets_size.calls k a0 t190 t191 t192 _ A2.out).mono ?_); rintro e w' ⟨rfl, ⟨nd, rfl⟩⟩; (try first | exact ⟨rfl, _, World.drewN_drewN _ _ _⟩ | exact ⟨rfl, _, Eq.trans (World.drewN_drewN _ _ _) (congrArg (World.drewN _) (Nat.add_assoc _ _ _))⟩); have p9 : 0 ≤ (t190 : Int) := od; have q9 : t190 < (es1_.size : Int) := od; have hx9 := bt_at es1_ t190; replace p9 := eq_true p9; replace q9 := eq_true q9)))
          go_ret3
          exact ⟨by first | rfl | (simp; done) | (simp only [← hji13] <;> (first | rfl | simp)) | (simp [*]; done) | (simp [nil_ne]; done) | (simp [u8_w, i64w_]; done) | (simp [size_lit]; done) | (simp; unfold wrap64; omega), d0⟩
         rw [if_neg c15] at H; exact absurd H (by simp)
        rw [if_neg c14] at H; exact absurd H (by simp)
       rw [if_neg c12] at H; exact absurd H (by simp)
      rw [if_neg c10] at H; have c10b0 := beq_eq_false_iff_ne.mpr c10; have c10b1 := bne_iff_ne.mpr c10; simp only [Option.some.injEq, Prod.mk.injEq] at H; obtain ⟨rfl, rfl, rfl⟩ := H
      go_enter Tryz.func63, Tryz.ntmps63
      go_wp2_with (first | (go_at_call 82; (with_reducible refine (nets_size.calls k a0 t190 t191 t192 _ A2.out).mono ?_); rintro e w' ⟨rfl, ⟨nd, rfl⟩⟩; (try first | exact ⟨rfl, _, World.drewN_drewN _ _ _⟩ | exact ⟨rfl, _, Eq.trans (World.drewN_drewN _ _ _) (congrArg (World.drewN _) (Nat.add_assoc _ _ _))⟩); have p9 : 0 ≤ (t190 : Int) := od; have q9 : t190 < (es1_.size : Int) := od; have hx9 := bt_at es1_ t190; replace p9 := eq_true p9; replace q9 := eq_true q9))
      repeat (go_quiet (first | (go_at_call 82; (with_reducible refine (nets_size.calls k a0 t190 t191 t192 _ A2.out).mono ?_); rintro e w' ⟨rfl, ⟨nd, rfl⟩⟩; (try first | exact ⟨rfl, _, World.drewN_drewN _ _ _⟩ | exact ⟨rfl, _, Eq.trans (World.drewN_drewN _ _ _) (congrArg (World.drewN _) (Nat.add_assoc _ _ _))⟩); have p9 : 0 ≤ (t190 : Int) := od; have q9 : t190 < (es1_.size : Int) := od; have hx9 := bt_at es1_ t190; replace p9 := eq_true p9; replace q9 := eq_true q9)); try go_wp2_with (first | (go_at_call 82; (with_reducible refine (nets_size.calls k a0 t190 t191 t192 _ A2.out).mono ?_); rintro e w' ⟨rfl, ⟨nd, rfl⟩⟩; (try first | exact ⟨rfl, _, World.drewN_drewN _ _ _⟩ | exact ⟨rfl, _, Eq.trans (World.drewN_drewN _ _ _) (congrArg (World.drewN _) (Nat.add_assoc _ _ _))⟩); have p9 : 0 ≤ (t190 : Int) := od; have q9 : t190 < (es1_.size : Int) := od; have hx9 := bt_at es1_ t190; replace p9 := eq_true p9; replace q9 := eq_true q9)))
      go_ret3
      exact ⟨cl, d0⟩
     rw [if_neg c8] at H; exact absurd H (by simp)
    rw [if_neg c7] at H; exact absurd H (by simp)
   rw [if_neg c5] at H; exact absurd H (by simp)
  rw [if_neg c4] at H; exact absurd H (by simp)
 rw [if_neg c3] at H; have c3b0 := beq_eq_false_iff_ne.mpr c3; have c3b1 := bne_iff_ne.mpr c3; simp only [Option.some.injEq, Prod.mk.injEq] at H; obtain ⟨rfl, rfl, rfl⟩ := H
 go_enter Tryz.func63, Tryz.ntmps63
 go_wp2_with (first | (go_at_call 82; (with_reducible refine (nets_size.calls k a0 t190 t191 t192 _ A2.out).mono ?_); rintro e w' ⟨rfl, ⟨nd, rfl⟩⟩; (try first | exact ⟨rfl, _, World.drewN_drewN _ _ _⟩ | exact ⟨rfl, _, Eq.trans (World.drewN_drewN _ _ _) (congrArg (World.drewN _) (Nat.add_assoc _ _ _))⟩)))
 repeat (go_quiet (first | (go_at_call 82; (with_reducible refine (nets_size.calls k a0 t190 t191 t192 _ A2.out).mono ?_); rintro e w' ⟨rfl, ⟨nd, rfl⟩⟩; (try first | exact ⟨rfl, _, World.drewN_drewN _ _ _⟩ | exact ⟨rfl, _, Eq.trans (World.drewN_drewN _ _ _) (congrArg (World.drewN _) (Nat.add_assoc _ _ _))⟩))); try go_wp2_with (first | (go_at_call 82; (with_reducible refine (nets_size.calls k a0 t190 t191 t192 _ A2.out).mono ?_); rintro e w' ⟨rfl, ⟨nd, rfl⟩⟩; (try first | exact ⟨rfl, _, World.drewN_drewN _ _ _⟩ | exact ⟨rfl, _, Eq.trans (World.drewN_drewN _ _ _) (congrArg (World.drewN _) (Nat.add_assoc _ _ _))⟩))))
 go_ret3
 exact ⟨cl, d0⟩

def nets_Texts.l0 : Nat → ByteArray → List ByteArray → Option (List ByteArray × Int)
 | 0, _, _ => none
 | k + 1, x0, x4 => if x0.toList = ([] : List UInt8) then (some (x4, 0)) else ((nets_Take.f k x0).bind fun bt193 => (if bt193.2.2 = 0 then (if x4.length < 8796093022208 then (nets_Texts.l0 k bt193.2.1 (x4 ++ [bt193.1])) else (none)) else (some (([] : List ByteArray), bt193.2.2))))
def nets_Texts.f (k : Nat) (a0 : ByteArray) : Option (List ByteArray × Int) := nets_Texts.l0 k a0 ([] : List ByteArray)
theorem nets_Texts.mono_l : ∀ k, (∀ y0 y1, LeO (nets_Texts.l0 k y0 y1) (nets_Texts.l0 (k + 1) y0 y1))
 | 0 => fun _ _ r h => by simp [nets_Texts.l0] at h
 | k + 1 => by
  have ih0 := nets_Texts.mono_l k
  ·intro y0 y1; unfold nets_Texts.l0
   repeat' first
   | (with_reducible exact ih0 _ _)
   | (with_reducible exact nets_Take.mono _ _)
   | (with_reducible exact LeO.refl _)
   | (with_reducible exact LeO.none _)
   | (with_reducible refine LeO.ite ?_ ?_)
   | (with_reducible refine LeO.bind ?_ (fun _ => ?_))
   | exact ih0 _ _
   | exact nets_Take.mono _ _
   | exact LeO.none _
   | refine LeO.ite ?_ ?_
   | refine LeO.bind ?_ (fun _ => ?_)
theorem nets_Texts.mono : ∀ a0 k, LeO (nets_Texts.f k a0) (nets_Texts.f (k + 1) a0) := by
 intro a0 k; have ih0 := nets_Texts.mono_l k; unfold nets_Texts.f
 repeat' first
   | (with_reducible exact ih0 _ _)
   | (with_reducible exact nets_Take.mono _ _)
   | (with_reducible exact LeO.refl _)
   | (with_reducible exact LeO.none _)
   | (with_reducible refine LeO.ite ?_ ?_)
   | (with_reducible refine LeO.bind ?_ (fun _ => ?_))
   | exact ih0 _ _
   | exact nets_Take.mono _ _
   | exact LeO.none _
   | refine LeO.ite ?_ ?_
   | refine LeO.bind ?_ (fun _ => ?_)
set_option maxHeartbeats 8000000 in
set_option maxRecDepth 100000 in
theorem nets_Texts.calls (k : Nat) (a0 : ByteArray) (r1 : List ByteArray) (r2 : Int) (w : World) (h : nets_Texts.f k a0 = some (r1, r2)) :
  Calls Tryz.prog 43 #[.string a0] w fun e w' => ∃ v0_ : Value, e = .returned (.tuple #[v0_, .int .i64 r2]) ∧ Kd.R Kd.string 9 w' w.heap.size (fun _ => True) v0_ r1 ∧ Below w.heap.size w w' := by
 have HB := Aside0.mk (Below.refl w.heap.size w); have H : (nets_Texts.l0 k a0 ([] : List ByteArray)) = some (r1, r2) := h; clear h; have H' := Aside0.mk H; clear H
 go_enter Tryz.func43, Tryz.ntmps43
 go_wp2
 go_loopg [0, 4] k (fun kq v0 v4 w' => ∃ (x0_1 : ByteArray) (x4_1 : List ByteArray), v0 = .string x0_1 ∧ Aside0 (nets_Texts.l0 kq x0_1 x4_1 = some (r1, r2)) ∧ Aside0 (kq ≤ k) ∧ Aside0 (Kd.R Kd.string 9 w' w.heap.size (fun _ => True) v4 x4_1) ∧ Aside0 (Below w.heap.size w w'))
 case atStart => exact ⟨(a0), (([] : List ByteArray)), cl, H', ⟨Nat.le_refl _⟩, ⟨by first | exact Kd.R_nil _ _ _ _ _ | exact Kd.N_nil _ _ _ _ _ | exact Kd.V_nil _ _ _ _ _ | exact Kd.Q_nil _ _ _ _ _ | exact Kd.S_nil _ _ _ _ _⟩, ⟨bw⟩⟩
 case round =>
  clear H'; obtain ⟨x0_1, x4_1, rfl, HA, HK1, HO_4, HB⟩ := hrel; cases gk with
  | zero => exact absurd HA.out (by simp [nets_Texts.l0])
  | succ k1 =>
   have H := HA.out; clear HA; simp only [nets_Texts.l0] at H
   by_cases c2 : x0_1.toList = ([] : List UInt8)
   ·rw [if_pos c2] at H; have c2b0 := beq_iff_eq.mpr c2; have c2b1 := bne_eq_false_iff_eq.mpr c2; clear c2; simp only [Option.some.injEq, Prod.mk.injEq] at H; obtain ⟨rfl, rfl⟩ := H
    go_wp2
    go_ret2
    exact ⟨_, ew, ra HO_4.out, bw⟩
   rw [if_neg c2] at H; have c2b0 := beq_eq_false_iff_ne.mpr c2; have c2b1 := bne_iff_ne.mpr c2; replace H := Option.bind_eq_some_iff.mp H; obtain ⟨⟨t193, t194, t195⟩, A30, H⟩ := H; replace H : (if t195 = 0 then (if x4_1.length < 8796093022208 then (nets_Texts.l0 k1 t194 (x4_1 ++ [t193])) else (none)) else (some (([] : List ByteArray), t195))) = some (r1, r2) := H; have A3 := Aside0.mk A30; clear A30
   by_cases c4 : t195 = 0
   ·rw [if_pos c4] at H; have c4b0 := beq_iff_eq.mpr c4; have c4b1 := bne_eq_false_iff_eq.mpr c4; clear c4
    by_cases c5 : x4_1.length < 8796093022208
    ·rw [if_pos c5] at H; have LMc5 := Aside0.mk c5; clear c5; obtain ⟨y196, hy196⟩ : ∃ y_ : List ByteArray, y_ = (x4_1 ++ [t193]) := ⟨_, rfl⟩
     replace H : (nets_Texts.l0 k1 t194 y196) = some (r1, r2) := by first | (rw [hy196]; with_reducible exact H) | (have H2_ := (Option.bind_some _ _).symm.trans H; rw [hy196]; with_reducible exact H2_) | (have H2_ := (Option.bind_some _ _).symm.trans H; with_reducible exact H2_) | with_reducible exact H | (rw [hy196]; exact H) | exact H
     have Ny196 := Aside0.mk hy196; clear hy196; have H' := Aside0.mk H; clear H
     go_wp2_with (first | ((with_reducible refine gate_callee (f := 63) rfl ?_); refine goesL_ (some 12) rfl rfl Tryz.func63 (by kernel_rfl) rfl #[.string x0_1] rfl am ?_; (with_reducible refine (nets_Take.calls k1 x0_1 t193 t194 t195 _ A3.out).mono ?_); rintro e w' ⟨rfl, ⟨nd, rfl⟩⟩; refine ⟨_, rfl, ?_⟩) | ((with_reducible refine gate_builtin (b := .append) (xs := #[.tmp 19, .tmp 21]) rfl ?_); at_builtin; refine Kd.R_append Kd.string (w0 := w) w.heap.size rfl (.tmp 19) (.tmp 21) 51 9 (.string ⟨#[]⟩) 16 rfl Tryz.underlying51 info9 rfl (by decide) (by omega) u4 x4_1 t193 [.string t193] (fun _ => True) (fun _ => False) rfl rfl ?aP (fun _ hk => hk.elim) ?aF ?aO ?aB ?aS ?aL ?_; (case aP => exact rfl); (case aB => exact bw); (case aF => exact (fun _ _ => trivial)); (case aO => exact (ra HO_4.out)); (case aS => exact (below_size bw)); (case aL => have := LMc5.out; omega); intro v197 w6 ho hb hg hat; rw [← Ny196.out] at ho; have n0_ := Aside0.mk (hb); have n1_ := Aside0.mk (ho); clear HB; clear HO_4; have HB := n0_; have HO198 := n1_; clear n0_ n1_; clear ho hb hg hat))
     go_roundg k1
     case measure => have := HK1.out; omega
     case rel => exact ⟨(t194), (y196), cl, H', ⟨by have := HK1.out; omega⟩, ⟨ra HO198.out⟩, ⟨bw⟩⟩
    rw [if_neg c5] at H; exact absurd H (by simp)
   rw [if_neg c4] at H; have c4b0 := beq_eq_false_iff_ne.mpr c4; have c4b1 := bne_iff_ne.mpr c4; simp only [Option.some.injEq, Prod.mk.injEq] at H; obtain ⟨rfl, rfl⟩ := H
   go_wp2_with (first | ((with_reducible refine gate_callee (f := 63) rfl ?_); refine goesL_ (some 12) rfl rfl Tryz.func63 (by kernel_rfl) rfl #[.string x0_1] rfl am ?_; (with_reducible refine (nets_Take.calls k1 x0_1 t193 t194 t195 _ A3.out).mono ?_); rintro e w' ⟨rfl, ⟨nd, rfl⟩⟩; refine ⟨_, rfl, ?_⟩))
   go_ret2
   exact ⟨_, ew, by first | exact Kd.R_nil _ _ _ _ _ | exact Kd.N_nil _ _ _ _ _ | exact Kd.V_nil _ _ _ _ _ | exact Kd.Q_nil _ _ _ _ _ | exact Kd.S_nil _ _ _ _ _, bw⟩

def nets_Pick.f (k : Nat) (a0 : ByteArray) (a1 : Int) : Option (List ByteArray × Int) := (nets_Texts.f k a0).bind fun bt199 => (if bt199.2 = 0 then (if (bt199.1.length : Int) = a1 then (some (bt199.1, bt199.2)) else (some (([] : List ByteArray), 3))) else (some (bt199.1, bt199.2)))
theorem nets_Pick.mono : ∀ a0 a1 k, LeO (nets_Pick.f k a0 a1) (nets_Pick.f (k + 1) a0 a1) := by
 intro a0 a1 k; unfold nets_Pick.f
 repeat' first
   | (with_reducible exact nets_Texts.mono _ _)
   | (with_reducible exact LeO.refl _)
   | (with_reducible exact LeO.none _)
   | (with_reducible refine LeO.ite ?_ ?_)
   | (with_reducible refine LeO.bind ?_ (fun _ => ?_))
   | exact nets_Texts.mono _ _
   | exact LeO.none _
   | refine LeO.ite ?_ ?_
   | refine LeO.bind ?_ (fun _ => ?_)
set_option maxHeartbeats 8000000 in
set_option maxRecDepth 100000 in
theorem nets_Pick.calls (k : Nat) (a0 : ByteArray) (a1 : Int) (r1 : List ByteArray) (r2 : Int) (w : World) (h : nets_Pick.f k a0 a1 = some (r1, r2)) :
  Calls Tryz.prog 25 #[.string a0, .int .i64 a1] w fun e w' => ∃ v0_ : Value, e = .returned (.tuple #[v0_, .int .i64 r2]) ∧ Kd.R Kd.string 9 w' w.heap.size (fun _ => True) v0_ r1 ∧ Below w.heap.size w w' := by
 have HB := Aside0.mk (Below.refl w.heap.size w); have H : ((nets_Texts.f k a0).bind fun bt199 => (if bt199.2 = 0 then (if (bt199.1.length : Int) = a1 then (some (bt199.1, bt199.2)) else (some (([] : List ByteArray), 3))) else (some (bt199.1, bt199.2)))) = some (r1, r2) := h; clear h; replace H := Option.bind_eq_some_iff.mp H; obtain ⟨⟨t199, t200⟩, A30, H⟩ := H; replace H : (if t200 = 0 then (if (t199.length : Int) = a1 then (some (t199, t200)) else (some (([] : List ByteArray), 3))) else (some (t199, t200))) = some (r1, r2) := H; have A3 := Aside0.mk A30; clear A30
 by_cases c4 : t200 = 0
 ·rw [if_pos c4] at H; have c4b0 := beq_iff_eq.mpr c4; have c4b1 := bne_eq_false_iff_eq.mpr c4; clear c4
  by_cases c5 : (t199.length : Int) = a1
  ·rw [if_pos c5] at H; have c5b0 := beq_iff_eq.mpr c5; have c5b1 := bne_eq_false_iff_eq.mpr c5; clear c5; simp only [Option.some.injEq, Prod.mk.injEq] at H; obtain ⟨rfl, rfl⟩ := H
   go_enter Tryz.func25, Tryz.ntmps25
   go_wp2_with (first | ((with_reducible refine gate_callee (f := 43) rfl ?_); refine goesL_ (some 10) rfl rfl Tryz.func43 (by kernel_rfl) rfl #[.string a0] rfl am ?_; (with_reducible refine (nets_Texts.calls k a0 t199 t200 _ A3.out).mono ?_); rintro e w6 ⟨v201, rfl, ho0, hb⟩; refine ⟨_, rfl, ?_⟩; have n0_ := Aside0.mk (Kd.R_lower ho0 (below_size bw)); have n1_ := Aside0.mk (below_step bw hb); clear HB; have HO202 := n0_; have HB := n1_; clear n0_ n1_; (try clear hb); (try clear hb2); (try clear hk); (try clear hi); (try clear ho0); obtain ⟨Ao7, co7, eo7⟩ := Kd.R_slice HO202.out; subst eo7))
   go_ret2
   exact ⟨_, ew, ra HO202.out, bw⟩
  rw [if_neg c5] at H; have c5b0 := beq_eq_false_iff_ne.mpr c5; have c5b1 := bne_iff_ne.mpr c5; simp only [Option.some.injEq, Prod.mk.injEq] at H; obtain ⟨rfl, rfl⟩ := H
  go_enter Tryz.func25, Tryz.ntmps25
  go_wp2_with (first | ((with_reducible refine gate_callee (f := 43) rfl ?_); refine goesL_ (some 10) rfl rfl Tryz.func43 (by kernel_rfl) rfl #[.string a0] rfl am ?_; (with_reducible refine (nets_Texts.calls k a0 t199 t200 _ A3.out).mono ?_); rintro e w8 ⟨v201, rfl, ho0, hb⟩; refine ⟨_, rfl, ?_⟩; have n0_ := Aside0.mk (Kd.R_lower ho0 (below_size bw)); have n1_ := Aside0.mk (below_step bw hb); clear HB; have HO202 := n0_; have HB := n1_; clear n0_ n1_; (try clear hb); (try clear hb2); (try clear hk); (try clear hi); (try clear ho0); obtain ⟨Ao9, co9, eo9⟩ := Kd.R_slice HO202.out; subst eo9))
  go_ret2
  exact ⟨_, ew, by first | exact Kd.R_nil _ _ _ _ _ | exact Kd.N_nil _ _ _ _ _ | exact Kd.V_nil _ _ _ _ _ | exact Kd.Q_nil _ _ _ _ _ | exact Kd.S_nil _ _ _ _ _, bw⟩
 rw [if_neg c4] at H; have c4b0 := beq_eq_false_iff_ne.mpr c4; have c4b1 := bne_iff_ne.mpr c4; simp only [Option.some.injEq, Prod.mk.injEq] at H; obtain ⟨rfl, rfl⟩ := H
 go_enter Tryz.func25, Tryz.ntmps25
 go_wp2_with (first | ((with_reducible refine gate_callee (f := 43) rfl ?_); refine goesL_ (some 10) rfl rfl Tryz.func43 (by kernel_rfl) rfl #[.string a0] rfl am ?_; (with_reducible refine (nets_Texts.calls k a0 t199 t200 _ A3.out).mono ?_); rintro e w10 ⟨v201, rfl, ho0, hb⟩; refine ⟨_, rfl, ?_⟩; have n0_ := Aside0.mk (Kd.R_lower ho0 (below_size bw)); have n1_ := Aside0.mk (below_step bw hb); clear HB; have HO202 := n0_; have HB := n1_; clear n0_ n1_; (try clear hb); (try clear hb2); (try clear hk); (try clear hi); (try clear ho0)))
 go_ret2
 exact ⟨_, ew, ra HO202.out, bw⟩

def roster_Mode.l0 : Nat → ByteArray → Int → Option (Int)
 | 0, _, _ => none
 | k + 1, x0, x3 => if x3 ≤ 3 then ((roster_Word.f x3).bind fun t188 => (if t188.toList = x0.toList then (some x3) else (roster_Mode.l0 k x0 (wrap64 (x3 + 1))))) else (some 0)
def roster_Mode.f (k : Nat) (a0 : ByteArray) : Option (Int) := roster_Mode.l0 k a0 1
theorem roster_Mode.mono_l : ∀ k, (∀ y0 y1, LeO (roster_Mode.l0 k y0 y1) (roster_Mode.l0 (k + 1) y0 y1))
 | 0 => fun _ _ r h => by simp [roster_Mode.l0] at h
 | k + 1 => by
  have ih0 := roster_Mode.mono_l k
  ·intro y0 y1; unfold roster_Mode.l0
   repeat' first
   | (with_reducible exact ih0 _ _)
   | (with_reducible exact LeO.refl _)
   | (with_reducible exact LeO.none _)
   | (with_reducible refine LeO.ite ?_ ?_)
   | (with_reducible refine LeO.bind ?_ (fun _ => ?_))
   | exact ih0 _ _
   | exact LeO.none _
   | refine LeO.ite ?_ ?_
   | refine LeO.bind ?_ (fun _ => ?_)
theorem roster_Mode.mono : ∀ a0 k, LeO (roster_Mode.f k a0) (roster_Mode.f (k + 1) a0) := by
 intro a0 k; have ih0 := roster_Mode.mono_l k; unfold roster_Mode.f
 repeat' first
   | (with_reducible exact ih0 _ _)
   | (with_reducible exact LeO.refl _)
   | (with_reducible exact LeO.none _)
   | (with_reducible refine LeO.ite ?_ ?_)
   | (with_reducible refine LeO.bind ?_ (fun _ => ?_))
   | exact ih0 _ _
   | exact LeO.none _
   | refine LeO.ite ?_ ?_
   | refine LeO.bind ?_ (fun _ => ?_)
set_option maxHeartbeats 8000000 in
set_option maxRecDepth 100000 in
theorem roster_Mode.calls (k : Nat) (a0 : ByteArray) (r : Int) (w : World) (h : roster_Mode.f k a0 = some r) :
  Calls Tryz.prog 23 #[.string a0] w fun e w' => e = .returned (.int .i64 r) ∧ Drawn0 w w' := by
 have H : (roster_Mode.l0 k a0 1) = some r := h; clear h; have H' := Aside0.mk H; clear H
 go_enter Tryz.func23, Tryz.ntmps23
 go_wp2
 go_loopg [3] k (fun kq v3 w' => ∃ (x3_1 : Int), v3 = .int .i64 x3_1 ∧ Aside0 (roster_Mode.l0 kq a0 x3_1 = some r) ∧ Aside0 (kq ≤ k) ∧ Drawn0 w w')
 case atStart => exact ⟨(1), cl, H', ⟨Nat.le_refl _⟩, d0⟩
 case round =>
  clear H'; obtain ⟨x3_1, rfl, HA, HK1, ⟨m1, rfl⟩⟩ := hrel; cases gk with
  | zero => exact absurd HA.out (by simp [roster_Mode.l0])
  | succ k1 =>
   have H := HA.out; clear HA; simp only [roster_Mode.l0] at H
   by_cases c2 : x3_1 ≤ 3
   ·rw [if_pos c2] at H; have c2b0 := decide_eq_true c2; clear c2; replace H := Option.bind_eq_some_iff.mp H; obtain ⟨t188, A30, H⟩ := H; have A3 := Aside0.mk A30; clear A30
    by_cases c4 : t188.toList = a0.toList
    ·rw [if_pos c4] at H; have c4b0 := beq_iff_eq.mpr c4; have c4b1 := bne_eq_false_iff_eq.mpr c4; clear c4; obtain rfl := Option.some.inj H
     go_wp2_with (first | ((with_reducible refine gate_callee (f := 21) rfl ?_); refine goesL_ (some 9) rfl rfl Tryz.func21 (by kernel_rfl) rfl #[.int .i64 x3_1] rfl am ?_; (with_reducible refine (roster_Word.calls x3_1 t188 _ A3.out).mono ?_); rintro e w' ⟨rfl, ⟨nd, rfl⟩⟩; refine ⟨_, rfl, ?_⟩))
     go_ret
     exact ⟨cl, d0⟩
    rw [if_neg c4] at H; have c4b0 := beq_eq_false_iff_ne.mpr c4; have c4b1 := bne_iff_ne.mpr c4; have H' := Aside0.mk H; clear H
    go_wp2_with (first | ((with_reducible refine gate_callee (f := 21) rfl ?_); refine goesL_ (some 9) rfl rfl Tryz.func21 (by kernel_rfl) rfl #[.int .i64 x3_1] rfl am ?_; (with_reducible refine (roster_Word.calls x3_1 t188 _ A3.out).mono ?_); rintro e w' ⟨rfl, ⟨nd, rfl⟩⟩; refine ⟨_, rfl, ?_⟩))
    go_roundg k1
    case measure => have := HK1.out; omega
    case rel => exact ⟨(wrap64 (x3_1 + 1)), cl, H', ⟨by have := HK1.out; omega⟩, d0⟩
   rw [if_neg c2] at H; have c2b0 := decide_eq_false c2; clear c2; obtain rfl := Option.some.inj H
   go_wp2
   go_ret
   exact ⟨cl, d0⟩

def roster_figure.l0 : Nat → ByteArray → Int → Int → Option (Int)
 | 0, _, _, _ => none
 | k + 1, x0, x3, x4 => if x4 < (x0.size : Int) then (if x3 ≤ 1099511627776 then (if 0 ≤ x4 then (roster_figure.l0 k x0 (wrap64 ((wrap64 ((wrap64 (10 * x3)) + (wrap64 (bt x0 x4)))) - 48)) (wrap64 (x4 + 1))) else (none)) else (some x3)) else (some x3)
def roster_figure.f (k : Nat) (a0 : ByteArray) : Option (Int) := if a0.toList = ([45, 49] : List UInt8) then (some (-1)) else (roster_figure.l0 k a0 0 0)
theorem roster_figure.mono_l : ∀ k, (∀ y0 y1 y2, LeO (roster_figure.l0 k y0 y1 y2) (roster_figure.l0 (k + 1) y0 y1 y2))
 | 0 => fun _ _ _ r h => by simp [roster_figure.l0] at h
 | k + 1 => by
  have ih0 := roster_figure.mono_l k
  ·intro y0 y1 y2; unfold roster_figure.l0
   repeat' first
   | (with_reducible exact ih0 _ _ _)
   | (with_reducible exact LeO.refl _)
   | (with_reducible exact LeO.none _)
   | (with_reducible refine LeO.ite ?_ ?_)
   | (with_reducible refine LeO.bind ?_ (fun _ => ?_))
   | exact ih0 _ _ _
   | exact LeO.none _
   | refine LeO.ite ?_ ?_
   | refine LeO.bind ?_ (fun _ => ?_)
theorem roster_figure.mono : ∀ a0 k, LeO (roster_figure.f k a0) (roster_figure.f (k + 1) a0) := by
 intro a0 k; have ih0 := roster_figure.mono_l k; unfold roster_figure.f
 repeat' first
   | (with_reducible exact ih0 _ _ _)
   | (with_reducible exact LeO.refl _)
   | (with_reducible exact LeO.none _)
   | (with_reducible refine LeO.ite ?_ ?_)
   | (with_reducible refine LeO.bind ?_ (fun _ => ?_))
   | exact ih0 _ _ _
   | exact LeO.none _
   | refine LeO.ite ?_ ?_
   | refine LeO.bind ?_ (fun _ => ?_)
set_option maxHeartbeats 8000000 in
set_option maxRecDepth 100000 in
theorem roster_figure.calls (k : Nat) (a0 : ByteArray) (r : Int) (w : World) (h : roster_figure.f k a0 = some r) :
  Calls Tryz.prog 27 #[.string a0] w fun e w' => e = .returned (.int .i64 r) ∧ Drawn0 w w' := by
 have H : (if a0.toList = ([45, 49] : List UInt8) then (some (-1)) else (roster_figure.l0 k a0 0 0)) = some r := h; clear h
 by_cases c2 : a0.toList = ([45, 49] : List UInt8)
 ·rw [if_pos c2] at H; have c2b0 := beq_iff_eq.mpr c2; have c2b1 := bne_eq_false_iff_eq.mpr c2; clear c2; obtain rfl := Option.some.inj H
  go_enter Tryz.func27, Tryz.ntmps27
  go_wp2
  go_ret
  exact ⟨cl, d0⟩
 rw [if_neg c2] at H; have c2b0 := beq_eq_false_iff_ne.mpr c2; have c2b1 := bne_iff_ne.mpr c2; have H' := Aside0.mk H; clear H
 go_enter Tryz.func27, Tryz.ntmps27
 go_wp2
 go_loopg [3, 4] k (fun kq v3 v4 w' => ∃ (x3_1 : Int) (x4_1 : Int), v3 = .int .i64 x3_1 ∧ v4 = .int .i64 x4_1 ∧ Aside0 (roster_figure.l0 kq a0 x3_1 x4_1 = some r) ∧ Aside0 (kq ≤ k) ∧ Drawn0 w w')
 case atStart => exact ⟨(0), (0), cl, cl, H', ⟨Nat.le_refl _⟩, d0⟩
 case round =>
  clear H'
  try clear c2
  try clear c2b0
  try clear c2b1
  try clear p2
  obtain ⟨x3_1, x4_1, rfl, rfl, HA, HK1, ⟨m1, rfl⟩⟩ := hrel; cases gk with
  | zero => exact absurd HA.out (by simp [roster_figure.l0])
  | succ k1 =>
   have H := HA.out; clear HA; simp only [roster_figure.l0] at H
   by_cases c3 : x4_1 < (a0.size : Int)
   ·rw [if_pos c3] at H; have c3b0 := decide_eq_true c3; clear c3
    by_cases c4 : x3_1 ≤ 1099511627776
    ·rw [if_pos c4] at H; have c4b0 := decide_eq_true c4; clear c4
     by_cases c5 : 0 ≤ x4_1
     ·rw [if_pos c5] at H; have c5b0 := decide_eq_true c5; clear c5; have H' := Aside0.mk H; clear H; have p6 : 0 ≤ (x4_1 : Int) := od; have q6 : x4_1 < (a0.size : Int) := od; have hx6 := bt_at a0 x4_1; replace p6 := eq_true p6; replace q6 := eq_true q6
      go_wp2
      go_roundg k1
      case measure => have := HK1.out; omega
      case rel => exact ⟨(wrap64 ((wrap64 ((wrap64 (10 * x3_1)) + (wrap64 (bt a0 x4_1)))) - 48)), (wrap64 (x4_1 + 1)), cl, cl, H', ⟨by have := HK1.out; omega⟩, d0⟩
     rw [if_neg c5] at H; exact absurd H (by simp)
    rw [if_neg c4] at H; have c4b0 := decide_eq_false c4; clear c4; obtain rfl := Option.some.inj H
    go_wp2
    go_ret
    exact ⟨cl, d0⟩
   rw [if_neg c3] at H; have c3b0 := decide_eq_false c3; clear c3; obtain rfl := Option.some.inj H
   go_wp2
   go_ret
   exact ⟨cl, d0⟩

def roster_Read.f (k : Nat) (a0 : ByteArray) : Option (ByteArray × ByteArray × Int × Bool × Int × Int × Int × Int × Int) := (nets_Pick.f k a0 8).bind fun bt282 => (if bt282.2 = 0 then (if 0 < (bt282.1.length : Int) then ((addr_Parse.f k (rdOf ByteArray.empty bt282.1 0)).bind fun bt287 => (if 1 < (bt282.1.length : Int) then ((roster_Mode.f k (rdOf ByteArray.empty bt282.1 1)).bind fun t292 => (if 2 < (bt282.1.length : Int) then (if 3 < (bt282.1.length : Int) then ((roster_figure.f k (rdOf ByteArray.empty bt282.1 3)).bind fun t295 => (if 4 < (bt282.1.length : Int) then ((roster_figure.f k (rdOf ByteArray.empty bt282.1 4)).bind fun t297 => (if 5 < (bt282.1.length : Int) then ((roster_figure.f k (rdOf ByteArray.empty bt282.1 5)).bind fun t299 => (if 6 < (bt282.1.length : Int) then ((roster_figure.f k (rdOf ByteArray.empty bt282.1 6)).bind fun t301 => (if bt287.2.2 = 0 then ((roster_Member_Sound.f k bt287.1 bt287.2.1 t292 ((rdOf ByteArray.empty bt282.1 2).toList == ([121, 101, 115] : List UInt8)) t295 t297 t299 t301).bind fun t303 => (if t303 = true then ((roster_Member_Row.f k bt287.1 bt287.2.1 t292 ((rdOf ByteArray.empty bt282.1 2).toList == ([121, 101, 115] : List UInt8)) t295 t297 t299 t301).bind fun t304 => (if t304.toList = a0.toList then (some (bt287.1, bt287.2.1, t292, ((rdOf ByteArray.empty bt282.1 2).toList == ([121, 101, 115] : List UInt8)), t295, t297, t299, t301, 0)) else (some ((⟨#[]⟩ : ByteArray), (⟨#[]⟩ : ByteArray), 0, false, 0, 0, 0, 0, 3)))) else (some ((⟨#[]⟩ : ByteArray), (⟨#[]⟩ : ByteArray), 0, false, 0, 0, 0, 0, 3)))) else (some ((⟨#[]⟩ : ByteArray), (⟨#[]⟩ : ByteArray), 0, false, 0, 0, 0, 0, 3)))) else (none))) else (none))) else (none))) else (none)) else (none))) else (none))) else (none)) else (some ((⟨#[]⟩ : ByteArray), (⟨#[]⟩ : ByteArray), 0, false, 0, 0, 0, 0, 3)))
theorem roster_Read.mono : ∀ a0 k, LeO (roster_Read.f k a0) (roster_Read.f (k + 1) a0) := by
 intro a0 k; unfold roster_Read.f
 repeat' first
   | (with_reducible exact addr_Parse.mono _ _)
   | (with_reducible exact nets_Pick.mono _ _ _)
   | (with_reducible exact roster_Member_Row.mono _ _ _ _ _ _ _ _ _)
   | (with_reducible exact roster_Member_Sound.mono _ _ _ _ _ _ _ _ _)
   | (with_reducible exact roster_Mode.mono _ _)
   | (with_reducible exact roster_figure.mono _ _)
   | (with_reducible exact LeO.refl _)
   | (with_reducible exact LeO.none _)
   | (with_reducible refine LeO.ite ?_ ?_)
   | (with_reducible refine LeO.bind ?_ (fun _ => ?_))
   | exact addr_Parse.mono _ _
   | exact nets_Pick.mono _ _ _
   | exact roster_Member_Row.mono _ _ _ _ _ _ _ _ _
   | exact roster_Member_Sound.mono _ _ _ _ _ _ _ _ _
   | exact roster_Mode.mono _ _
   | exact roster_figure.mono _ _
   | exact LeO.none _
   | refine LeO.ite ?_ ?_
   | refine LeO.bind ?_ (fun _ => ?_)
def roster_Read.T5 : Bool × List (List Nat × List Nat) := (true, [([], []), ([], []), ([1], [1]), ([2], [2]), ([3], [3]), ([], []), ([5], [5]), ([6], [6]), ([7], [7]), ([], []), ([9], [9]), ([10], [10]), ([11, 4], [11]), ([], []), ([13], [13]), ([14], [14]), ([15, 12], [15]), ([], []), ([17], [17]), ([18], [18]), ([19, 16], [19]), ([], []), ([21], [21]), ([22], [22]), ([23, 20], [23]), ([0, 4, 8, 12, 16, 20, 24], [0, 4, 8, 12, 16, 20, 24]), ([], []), ([26, 25, 24, 0, 1, 2, 3, 4, 5, 6, 7, 8, 9, 10, 11, 12, 13, 14, 15, 16, 17, 18, 19, 20, 21, 22, 23, 24, 25, 26], [25, 26])])
def roster_Read.B5 : List Nat := [0, 0, 2, 6, 14, 0, 32, 96, 224, 0, 512, 1536, 3614, 0, 8192, 24576, 65054, 0, 131072, 393216, 1048094, 0, 2097152, 6291456, 16776734, 33554431, 0, 134217727]
theorem roster_Read.tab5 : rtab .any (opsOf Tryz.f6 5) = roster_Read.T5 := by kernel_rfl
theorem roster_Read.bits5 : waitsOk roster_Read.T5.2 roster_Read.B5 = true := by kernel_rfl
set_option maxHeartbeats 8000000 in
set_option maxRecDepth 100000 in
theorem roster_Read.calls (k : Nat) (a0 : ByteArray) (r1 : ByteArray) (r2 : ByteArray) (r3 : Int) (r4 : Bool) (r5 : Int) (r6 : Int) (r7 : Int) (r8 : Int) (r9 : Int) (w : World) (hG : GlobT w) (h : roster_Read.f k a0 = some (r1, r2, r3, r4, r5, r6, r7, r8, r9)) :
  Calls Tryz.prog 6 #[.string a0] w fun e w' => e = .returned (.tuple #[.agg #[.string r1, .string r2, .int .i64 r3, .bool r4, .int .i64 r5, .int .i64 r6, .int .i64 r7, .int .i64 r8], .int .i64 r9]) ∧ Below w.heap.size w w' := by
 have hu29 := Tryz.underlying29; have hu27 := Tryz.underlying27; have HB := Aside0.mk (Below.refl w.heap.size w); have H : ((nets_Pick.f k a0 8).bind fun bt282 => (if bt282.2 = 0 then (if 0 < (bt282.1.length : Int) then ((addr_Parse.f k (rdOf ByteArray.empty bt282.1 0)).bind fun bt287 => (if 1 < (bt282.1.length : Int) then ((roster_Mode.f k (rdOf ByteArray.empty bt282.1 1)).bind fun t292 => (if 2 < (bt282.1.length : Int) then (if 3 < (bt282.1.length : Int) then ((roster_figure.f k (rdOf ByteArray.empty bt282.1 3)).bind fun t295 => (if 4 < (bt282.1.length : Int) then ((roster_figure.f k (rdOf ByteArray.empty bt282.1 4)).bind fun t297 => (if 5 < (bt282.1.length : Int) then ((roster_figure.f k (rdOf ByteArray.empty bt282.1 5)).bind fun t299 => (if 6 < (bt282.1.length : Int) then ((roster_figure.f k (rdOf ByteArray.empty bt282.1 6)).bind fun t301 => (if bt287.2.2 = 0 then ((roster_Member_Sound.f k bt287.1 bt287.2.1 t292 ((rdOf ByteArray.empty bt282.1 2).toList == ([121, 101, 115] : List UInt8)) t295 t297 t299 t301).bind fun t303 => (if t303 = true then ((roster_Member_Row.f k bt287.1 bt287.2.1 t292 ((rdOf ByteArray.empty bt282.1 2).toList == ([121, 101, 115] : List UInt8)) t295 t297 t299 t301).bind fun t304 => (if t304.toList = a0.toList then (some (bt287.1, bt287.2.1, t292, ((rdOf ByteArray.empty bt282.1 2).toList == ([121, 101, 115] : List UInt8)), t295, t297, t299, t301, 0)) else (some ((⟨#[]⟩ : ByteArray), (⟨#[]⟩ : ByteArray), 0, false, 0, 0, 0, 0, 3)))) else (some ((⟨#[]⟩ : ByteArray), (⟨#[]⟩ : ByteArray), 0, false, 0, 0, 0, 0, 3)))) else (some ((⟨#[]⟩ : ByteArray), (⟨#[]⟩ : ByteArray), 0, false, 0, 0, 0, 0, 3)))) else (none))) else (none))) else (none))) else (none)) else (none))) else (none))) else (none)) else (some ((⟨#[]⟩ : ByteArray), (⟨#[]⟩ : ByteArray), 0, false, 0, 0, 0, 0, 3)))) = some (r1, r2, r3, r4, r5, r6, r7, r8, r9) := h; clear h; replace H := Option.bind_eq_some_iff.mp H; obtain ⟨⟨t282, t283⟩, A20, H⟩ := H; replace H : (if t283 = 0 then (if 0 < (t282.length : Int) then ((addr_Parse.f k (rdOf ByteArray.empty t282 0)).bind fun bt287 => (if 1 < (t282.length : Int) then ((roster_Mode.f k (rdOf ByteArray.empty t282 1)).bind fun t292 => (if 2 < (t282.length : Int) then (if 3 < (t282.length : Int) then ((roster_figure.f k (rdOf ByteArray.empty t282 3)).bind fun t295 => (if 4 < (t282.length : Int) then ((roster_figure.f k (rdOf ByteArray.empty t282 4)).bind fun t297 => (if 5 < (t282.length : Int) then ((roster_figure.f k (rdOf ByteArray.empty t282 5)).bind fun t299 => (if 6 < (t282.length : Int) then ((roster_figure.f k (rdOf ByteArray.empty t282 6)).bind fun t301 => (if bt287.2.2 = 0 then ((roster_Member_Sound.f k bt287.1 bt287.2.1 t292 ((rdOf ByteArray.empty t282 2).toList == ([121, 101, 115] : List UInt8)) t295 t297 t299 t301).bind fun t303 => (if t303 = true then ((roster_Member_Row.f k bt287.1 bt287.2.1 t292 ((rdOf ByteArray.empty t282 2).toList == ([121, 101, 115] : List UInt8)) t295 t297 t299 t301).bind fun t304 => (if t304.toList = a0.toList then (some (bt287.1, bt287.2.1, t292, ((rdOf ByteArray.empty t282 2).toList == ([121, 101, 115] : List UInt8)), t295, t297, t299, t301, 0)) else (some ((⟨#[]⟩ : ByteArray), (⟨#[]⟩ : ByteArray), 0, false, 0, 0, 0, 0, 3)))) else (some ((⟨#[]⟩ : ByteArray), (⟨#[]⟩ : ByteArray), 0, false, 0, 0, 0, 0, 3)))) else (some ((⟨#[]⟩ : ByteArray), (⟨#[]⟩ : ByteArray), 0, false, 0, 0, 0, 0, 3)))) else (none))) else (none))) else (none))) else (none)) else (none))) else (none))) else (none)) else (some ((⟨#[]⟩ : ByteArray), (⟨#[]⟩ : ByteArray), 0, false, 0, 0, 0, 0, 3))) = some (r1, r2, r3, r4, r5, r6, r7, r8, r9) := H; have A2 := Aside0.mk A20; clear A20
 by_cases c3 : t283 = 0
 ·rw [if_pos c3] at H; have c3b0 := beq_iff_eq.mpr c3; have c3b1 := bne_eq_false_iff_eq.mpr c3; clear c3
  by_cases c4 : 0 < (t282.length : Int)
  ·rw [if_pos c4] at H; have c4b0 := decide_eq_true c4; have c4b1 : decide (0 < t282.length) = true := decide_eq_true (by omega); clear c4; replace H := Option.bind_eq_some_iff.mp H; obtain ⟨⟨t287, t288, t289⟩, A50, H⟩ := H; replace H : (if 1 < (t282.length : Int) then ((roster_Mode.f k (rdOf ByteArray.empty t282 1)).bind fun t292 => (if 2 < (t282.length : Int) then (if 3 < (t282.length : Int) then ((roster_figure.f k (rdOf ByteArray.empty t282 3)).bind fun t295 => (if 4 < (t282.length : Int) then ((roster_figure.f k (rdOf ByteArray.empty t282 4)).bind fun t297 => (if 5 < (t282.length : Int) then ((roster_figure.f k (rdOf ByteArray.empty t282 5)).bind fun t299 => (if 6 < (t282.length : Int) then ((roster_figure.f k (rdOf ByteArray.empty t282 6)).bind fun t301 => (if t289 = 0 then ((roster_Member_Sound.f k t287 t288 t292 ((rdOf ByteArray.empty t282 2).toList == ([121, 101, 115] : List UInt8)) t295 t297 t299 t301).bind fun t303 => (if t303 = true then ((roster_Member_Row.f k t287 t288 t292 ((rdOf ByteArray.empty t282 2).toList == ([121, 101, 115] : List UInt8)) t295 t297 t299 t301).bind fun t304 => (if t304.toList = a0.toList then (some (t287, t288, t292, ((rdOf ByteArray.empty t282 2).toList == ([121, 101, 115] : List UInt8)), t295, t297, t299, t301, 0)) else (some ((⟨#[]⟩ : ByteArray), (⟨#[]⟩ : ByteArray), 0, false, 0, 0, 0, 0, 3)))) else (some ((⟨#[]⟩ : ByteArray), (⟨#[]⟩ : ByteArray), 0, false, 0, 0, 0, 0, 3)))) else (some ((⟨#[]⟩ : ByteArray), (⟨#[]⟩ : ByteArray), 0, false, 0, 0, 0, 0, 3)))) else (none))) else (none))) else (none))) else (none)) else (none))) else (none)) = some (r1, r2, r3, r4, r5, r6, r7, r8, r9) := H; have A5 := Aside0.mk A50; clear A50
   by_cases c6 : 1 < (t282.length : Int)
   ·rw [if_pos c6] at H; have c6b0 := decide_eq_true c6; have c6b1 : decide (1 < t282.length) = true := decide_eq_true (by omega); clear c6; replace H := Option.bind_eq_some_iff.mp H; obtain ⟨t292, A70, H⟩ := H; have A7 := Aside0.mk A70; clear A70
    by_cases c8 : 2 < (t282.length : Int)
    ·rw [if_pos c8] at H; have c8b0 := decide_eq_true c8; have c8b1 : decide (2 < t282.length) = true := decide_eq_true (by omega); clear c8
     by_cases c9 : 3 < (t282.length : Int)
     ·rw [if_pos c9] at H; have c9b0 := decide_eq_true c9; have c9b1 : decide (3 < t282.length) = true := decide_eq_true (by omega); clear c9; replace H := Option.bind_eq_some_iff.mp H; obtain ⟨t295, A100, H⟩ := H; have A10 := Aside0.mk A100; clear A100
      by_cases c11 : 4 < (t282.length : Int)
      ·rw [if_pos c11] at H; have c11b0 := decide_eq_true c11; have c11b1 : decide (4 < t282.length) = true := decide_eq_true (by omega); clear c11; replace H := Option.bind_eq_some_iff.mp H; obtain ⟨t297, A120, H⟩ := H; have A12 := Aside0.mk A120; clear A120
       by_cases c13 : 5 < (t282.length : Int)
       ·rw [if_pos c13] at H; have c13b0 := decide_eq_true c13; have c13b1 : decide (5 < t282.length) = true := decide_eq_true (by omega); clear c13; replace H := Option.bind_eq_some_iff.mp H; obtain ⟨t299, A140, H⟩ := H; have A14 := Aside0.mk A140; clear A140
        by_cases c15 : 6 < (t282.length : Int)
        ·rw [if_pos c15] at H; have c15b0 := decide_eq_true c15; have c15b1 : decide (6 < t282.length) = true := decide_eq_true (by omega); clear c15; replace H := Option.bind_eq_some_iff.mp H; obtain ⟨t301, A160, H⟩ := H; have A16 := Aside0.mk A160; clear A160; obtain ⟨bq_, hbq_⟩ : ∃ b_ : Bool, ((rdOf ByteArray.empty t282 2).toList == ([121, 101, 115] : List UInt8)) = b_ := ⟨_, rfl⟩
         rw [hbq_] at H; have HR := Aside0.mk H; clear H
         go_enter Tryz.func6, Tryz.ntmps6
         as_aux_lemma =>
          try go_wp2_with (first | ((with_reducible refine gate_dst (N := 2) rfl ?_); refine box_event ?hg (N := 2) ?hd (cs := #[.string (⟨#[]⟩ : ByteArray), .string (⟨#[]⟩ : ByteArray), .int .i64 0, .bool false, .int .i64 0, .int .i64 0, .int .i64 0, .int .i64 0]) (t := 29) ?hr ?_; (case hd => rfl); (case hg => rfl); (case hr => first | (go_simp; done) | (go_simp; rfl)); intro gb281 hg w22 hbox hb; have n0_ := Aside0.mk (below_step bw hb); have n1_ := Aside0.mk (hbox); have n2_ := Aside0.mk ((by rw [hg]; exact (below_size bw) : w.heap.size ≤ gb281)); have n3_ := Aside0.mk ((by rw [hg]; exact (below_size bw) : w.heap.size ≤ gb281)); clear HB; have HB := n0_; have BK281 := n1_; have GW281 := n2_; have GE281 := n3_; clear n0_ n1_ n2_ n3_; clear hb hbox hg) | ((with_reducible refine gate_callee (f := 25) rfl ?_); refine goesL_ (some 10) rfl rfl Tryz.func25 (by kernel_rfl) rfl #[.string a0, .int .i64 8] rfl am ?_; (with_reducible refine (nets_Pick.calls k a0 8 t282 t283 _ A2.out).mono ?_); rintro e w23 ⟨v284, rfl, ho0, hb⟩; refine ⟨_, rfl, ?_⟩; have n0_ := Aside0.mk (Kd.R_lower ho0 (below_size bwS)); have n1_ := Aside0.mk (blk_below (g := gb281) (o := .cells #[.string (⟨#[]⟩ : ByteArray), .string (⟨#[]⟩ : ByteArray), .int .i64 0, .bool false, .int .i64 0, .int .i64 0, .int .i64 0, .int .i64 0] 29 (0, 0)) bk hb); have n2_ := Aside0.mk (below_step bwS hb); clear BK281; clear HB; have HO285 := n0_; have BK281 := n1_; have HB := n2_; clear n0_ n1_ n2_; (try clear hb); (try clear hb2); (try clear hk); (try clear hi); (try clear ho0); obtain ⟨Ao24, co24, eo24⟩ := Kd.R_slice HO285.out; subst eo24; have p286 : 0 ≤ (0 : Int) := (by omega); have q286 : 0 < (t282.length : Int) := od; obtain ⟨ad286, e286, hx286_0⟩ := Kd.at_string (Kd.R_reads' HO285.out).2.2 0 p286 q286; cases e286; have qi286 : (0 < t282.length) = True := eq_true (by omega); (try rw [show ((0 : Int)).toNat = 0 from rfl] at hx286_0); (try rw [Addr.add_zero'] at hx286_0); replace p286 := eq_true p286; replace q286 := eq_true q286) | ((with_reducible refine gate_callee (f := 26) rfl ?_); refine goesL_ (some 20) rfl rfl Tryz.func26 (by kernel_rfl) rfl #[.string (rdOf ByteArray.empty t282 0)] rfl am ?_; (with_reducible refine (addr_Parse.calls k (rdOf ByteArray.empty t282 0) t287 t288 t289 _ A5.out).mono ?_); rintro e w25 ⟨rfl, hb⟩; refine ⟨_, rfl, ?_⟩; have n0_ := Aside0.mk (Kd.R_below (ra HO285.out) hb); have n1_ := Aside0.mk (blk_below (g := gb281) (o := .cells #[.string (⟨#[]⟩ : ByteArray), .string (⟨#[]⟩ : ByteArray), .int .i64 0, .bool false, .int .i64 0, .int .i64 0, .int .i64 0, .int .i64 0] 29 (0, 0)) bk hb); have n2_ := Aside0.mk (below_step bwS hb); clear HO285; clear BK281; clear HB; have HO285 := n0_; have BK281 := n1_; have HB := n2_; clear n0_ n1_ n2_; (try clear hb); (try clear hb2); (try clear hk); (try clear hi)) | ((with_reducible refine gate_dst (N := 6) rfl ?_); refine box_event ?hg (N := 6) ?hd (cs := #[.string (⟨#[]⟩ : ByteArray), .string (⟨#[]⟩ : ByteArray)]) (t := 27) ?hr ?_; (case hd => rfl); (case hg => rfl); (case hr => first | (go_simp; done) | (go_simp; rfl)); intro gb290 hg w26 hbox hb; have n0_ := Aside0.mk (Kd.R_below (ra HO285.out) hb); have n1_ := Aside0.mk (blk_below (g := gb281) (o := .cells #[.string (⟨#[]⟩ : ByteArray), .string (⟨#[]⟩ : ByteArray), .int .i64 0, .bool false, .int .i64 0, .int .i64 0, .int .i64 0, .int .i64 0] 29 (0, 0)) bk hb); have n2_ := Aside0.mk (below_step bwS hb); have n3_ := Aside0.mk (hbox); have n4_ := Aside0.mk ((by rw [hg]; exact (below_size bwS) : w.heap.size ≤ gb290)); have n5_ := Aside0.mk ((by rw [hg]; exact (below_size bwS) : w.heap.size ≤ gb290)); have n6_ := Aside0.mk ((by rw [hg]; exact Nat.ne_of_lt (blk_lt (g := gb281) (o := .cells #[.string (⟨#[]⟩ : ByteArray), .string (⟨#[]⟩ : ByteArray), .int .i64 0, .bool false, .int .i64 0, .int .i64 0, .int .i64 0, .int .i64 0] 29 (0, 0)) bk) : gb281 ≠ gb290)); have n7_ := Aside0.mk ((by rw [hg]; exact Nat.ne_of_gt (blk_lt (g := gb281) (o := .cells #[.string (⟨#[]⟩ : ByteArray), .string (⟨#[]⟩ : ByteArray), .int .i64 0, .bool false, .int .i64 0, .int .i64 0, .int .i64 0, .int .i64 0] 29 (0, 0)) bk) : gb290 ≠ gb281)); clear HO285; clear BK281; clear HB; have HO285 := n0_; have BK281 := n1_; have HB := n2_; have BK290 := n3_; have GW290 := n4_; have GE290 := n5_; have NB281_290 := n6_; have NB290_281 := n7_; clear n0_ n1_ n2_ n3_ n4_ n5_ n6_ n7_; clear hb hbox hg; have hnb27 := NB290_281.out; have hnc27 := NB281_290.out; have hcz28_0 : w26.cell? ⟨gb290, 0, none⟩ = some (.string (⟨#[]⟩ : ByteArray)) := (blk_cell BK290.out 0).trans rfl; have hcz28_1 : w26.cell? ⟨gb290, 1, none⟩ = some (.string (⟨#[]⟩ : ByteArray)) := (blk_cell BK290.out 1).trans rfl; have hfz28_0 := blk_frozen BK290.out 0; have hfz28_1 := blk_frozen BK290.out 1))
          have n0_ : Aside0 (Kd.R Kd.string 9 ((w26.setCell ⟨gb290, 0, none⟩ (.string t287)).setCell ⟨gb290, 1, none⟩ (.string t288)) w.heap.size (fun _ => True) (.slice (some ad286) t282.length co24) t282) := ⟨by (with_reducible repeat (first | apply Kd.R_alloc | apply Kd.R_drewN | apply Kd.R_drew)); exact Kd.R_mono (Kd.R_far (p := ⟨gb290, 1, none⟩) (Kd.R_far (p := ⟨gb290, 0, none⟩) (Kd.R_types HO285.out BK290.out (by decide)) (fun _ hk => hk.2) (.string t287)) (fun _ hk => hk.2) (.string t288)) (fun _ hk => trivial)⟩
          have n1_ : Aside0 (((w26.setCell ⟨gb290, 0, none⟩ (.string t287)).setCell ⟨gb290, 1, none⟩ (.string t288)).heap[gb281]? = some (.cells #[.string (⟨#[]⟩ : ByteArray), .string (⟨#[]⟩ : ByteArray), .int .i64 0, .bool false, .int .i64 0, .int .i64 0, .int .i64 0, .int .i64 0] 29 (0, 0))) := ⟨by (with_reducible repeat (first | refine blk_drewN ?_ _ | refine blk_drew ?_ | refine blk_alloc ?_ _)); refine blk_far ?_ NB281_290.out _; (with_reducible repeat (first | refine blk_drewN ?_ _ | refine blk_drew ?_ | refine blk_alloc ?_ _)); refine blk_far ?_ NB281_290.out _; (with_reducible repeat (first | refine blk_drewN ?_ _ | refine blk_drew ?_ | refine blk_alloc ?_ _)); exact BK281.out⟩
          have n2_ : Aside0 (((w26.setCell ⟨gb290, 0, none⟩ (.string t287)).setCell ⟨gb290, 1, none⟩ (.string t288)).heap[gb290]? = some (.cells #[.string t287, .string t288] 27 (0, 0))) := ⟨by (with_reducible repeat (first | refine blk_drewN ?_ _ | refine blk_drew ?_ | refine blk_alloc ?_ _)); refine blk_put (cs := #[.string t287, .string (⟨#[]⟩ : ByteArray)]) ?_ 1 _ rfl; (with_reducible repeat (first | refine blk_drewN ?_ _ | refine blk_drew ?_ | refine blk_alloc ?_ _)); exact blk_put (cs := #[.string (⟨#[]⟩ : ByteArray), .string (⟨#[]⟩ : ByteArray)]) bk 0 _ rfl⟩
          have n3_ : Aside0 (Below w.heap.size w ((w26.setCell ⟨gb290, 0, none⟩ (.string t287)).setCell ⟨gb290, 1, none⟩ (.string t288))) := ⟨bwS⟩
          (try clear HO285)
          (try clear BK281)
          (try clear BK290)
          (try clear HB)
          generalize ((w26.setCell ⟨gb290, 0, none⟩ (.string t287)).setCell ⟨gb290, 1, none⟩ (.string t288)) = w29 at n0_ n1_ n2_ n3_ ⊢
          have HO285 := n0_; have BK281 := n1_; have BK290 := n2_; have HB := n3_; clear n0_ n1_ n2_ n3_; have n0_ := Aside0.mk (Kd.R_drew HO285.out); have n1_ := Aside0.mk (blk_drew BK281.out); have n2_ := Aside0.mk (blk_drew BK290.out); have n3_ := Aside0.mk (below_drew1 HB.out); clear HO285 BK281 BK290 HB; have HO285 := n0_; have BK281 := n1_; have BK290 := n2_; have HB := n3_; clear n0_ n1_ n2_ n3_; have p291 : 0 ≤ (1 : Int) := (by omega)
          have q291 : 1 < (t282.length : Int) := od; obtain ⟨ad291, e291, hx291_0⟩ := Kd.at_string (Kd.R_reads' HO285.out).2.2 1 p291 q291; obtain rfl : ad286 = ad291 := (by injection e291)
          (try simp only [show (1 : Int).toNat = 1 from rfl, Nat.reduceMul, Nat.reduceEqDiff, Go.Addr.add, ↓reduceIte] at hx291_0)
          have qi291 : (1 < t282.length) = True := eq_true (by omega)
          (try rw [show ((1 : Int)).toNat = 1 from rfl] at hx291_0)
          replace p291 := eq_true p291; replace q291 := eq_true q291; have p293 : 0 ≤ (2 : Int) := (by omega)
          have q293 : 2 < (t282.length : Int) := od; obtain ⟨ad293, e293, hx293_0⟩ := Kd.at_string (Kd.R_reads' HO285.out).2.2 2 p293 q293; obtain rfl : ad286 = ad293 := (by injection e293)
          (try simp only [show (2 : Int).toNat = 2 from rfl, Nat.reduceMul, Nat.reduceEqDiff, Go.Addr.add, ↓reduceIte] at hx293_0)
          have qi293 : (2 < t282.length) = True := eq_true (by omega)
          (try rw [show ((2 : Int)).toNat = 2 from rfl] at hx293_0)
          replace p293 := eq_true p293; replace q293 := eq_true q293; have p294 : 0 ≤ (3 : Int) := (by omega)
          have q294 : 3 < (t282.length : Int) := od; obtain ⟨ad294, e294, hx294_0⟩ := Kd.at_string (Kd.R_reads' HO285.out).2.2 3 p294 q294; obtain rfl : ad286 = ad294 := (by injection e294)
          (try simp only [show (3 : Int).toNat = 3 from rfl, Nat.reduceMul, Nat.reduceEqDiff, Go.Addr.add, ↓reduceIte] at hx294_0)
          have qi294 : (3 < t282.length) = True := eq_true (by omega)
          (try rw [show ((3 : Int)).toNat = 3 from rfl] at hx294_0)
          replace p294 := eq_true p294; replace q294 := eq_true q294; have p296 : 0 ≤ (4 : Int) := (by omega)
          have q296 : 4 < (t282.length : Int) := od; obtain ⟨ad296, e296, hx296_0⟩ := Kd.at_string (Kd.R_reads' HO285.out).2.2 4 p296 q296; obtain rfl : ad286 = ad296 := (by injection e296)
          (try simp only [show (4 : Int).toNat = 4 from rfl, Nat.reduceMul, Nat.reduceEqDiff, Go.Addr.add, ↓reduceIte] at hx296_0)
          have qi296 : (4 < t282.length) = True := eq_true (by omega)
          (try rw [show ((4 : Int)).toNat = 4 from rfl] at hx296_0)
          replace p296 := eq_true p296; replace q296 := eq_true q296; have p298 : 0 ≤ (5 : Int) := (by omega)
          have q298 : 5 < (t282.length : Int) := od; obtain ⟨ad298, e298, hx298_0⟩ := Kd.at_string (Kd.R_reads' HO285.out).2.2 5 p298 q298; obtain rfl : ad286 = ad298 := (by injection e298)
          (try simp only [show (5 : Int).toNat = 5 from rfl, Nat.reduceMul, Nat.reduceEqDiff, Go.Addr.add, ↓reduceIte] at hx298_0)
          have qi298 : (5 < t282.length) = True := eq_true (by omega)
          (try rw [show ((5 : Int)).toNat = 5 from rfl] at hx298_0)
          replace p298 := eq_true p298; replace q298 := eq_true q298; have p300 : 0 ≤ (6 : Int) := (by omega)
          have q300 : 6 < (t282.length : Int) := od; obtain ⟨ad300, e300, hx300_0⟩ := Kd.at_string (Kd.R_reads' HO285.out).2.2 6 p300 q300; obtain rfl : ad286 = ad300 := (by injection e300)
          (try simp only [show (6 : Int).toNat = 6 from rfl, Nat.reduceMul, Nat.reduceEqDiff, Go.Addr.add, ↓reduceIte] at hx300_0)
          have qi300 : (6 < t282.length) = True := eq_true (by omega)
          (try rw [show ((6 : Int)).toNat = 6 from rfl] at hx300_0)
          replace p300 := eq_true p300; replace q300 := eq_true q300; refine start_ (n := 28) (S := fun w' => w'.cell? ⟨gb290, 0, none⟩ = some (.string t287) ∧ w'.cell? ⟨gb290, 1, none⟩ = some (.string t288) ∧ w'.cell? ⟨ad286.block, ad286.off + 1, none⟩ = some (.string (rdOf ByteArray.empty t282 1)) ∧ w'.cell? ⟨ad286.block, ad286.off + 2, none⟩ = some (.string (rdOf ByteArray.empty t282 2)) ∧ w'.cell? ⟨ad286.block, ad286.off + 3, none⟩ = some (.string (rdOf ByteArray.empty t282 3)) ∧ w'.cell? ⟨ad286.block, ad286.off + 4, none⟩ = some (.string (rdOf ByteArray.empty t282 4)) ∧ w'.cell? ⟨ad286.block, ad286.off + 5, none⟩ = some (.string (rdOf ByteArray.empty t282 5)) ∧ w'.cell? ⟨ad286.block, ad286.off + 6, none⟩ = some (.string (rdOf ByteArray.empty t282 6))) (ds := []) #[false, false, false, false, false, false, false, false, false, false, false, false, false, false, false, false, false, false, false, false, false, false, false, false, false, false, false, false] (by kernel_rfl) rfl rfl ⟨(blk_cell BK290.out 0).trans rfl, (blk_cell BK290.out 1).trans rfl, hx291_0, hx293_0, hx294_0, hx296_0, hx298_0, hx300_0⟩ (fun hHeld => ?_); refine with_tabW roster_Read.tab5 roster_Read.bits5 (fun HT_ HW_ => ?_)
          generalize w29.drew = w30 at HO285 BK281 BK290 HB hx291_0 hx293_0 hx294_0 hx296_0 hx298_0 hx300_0 hHeld ⊢
          refine pure_ (i := 1) (N := some 24) (v := ?_) (a' := ?_) (bitsL 28 2) rfl rfl (any_of HT_.out (by kernel_rfl)) (fun _ _ _ h => h) (Or.inl ⟨by rfl, ?_⟩) ?_ ?_; rotate_left
          ·intro w'; go_simp; with_reducible rfl
          rotate_left
          ·simp only [Act.put, List.setIfInBounds_toArray, List.set_cons_zero, List.set_cons_succ, i64_w, i32_w]; rfl
          refine pure_ (i := 2) (N := some 25) (v := ?_) (a' := ?_) (bitsL 28 6) rfl rfl (any_of HT_.out (by kernel_rfl)) (fun _ _ _ h => h) (Or.inl ⟨by rfl, ?_⟩) ?_ ?_; rotate_left
          ·intro w'; go_simp; with_reducible rfl
          rotate_left
          ·simp only [Act.put, List.setIfInBounds_toArray, List.set_cons_zero, List.set_cons_succ, i64_w, i32_w]; rfl
          refine pure_ (i := 5) (N := some 28) (v := ?_) (a' := ?_) (bitsL 28 38) rfl rfl (any_of HT_.out (by kernel_rfl)) (fun _ _ _ h => h) (Or.inl ⟨by rfl, ?_⟩) ?_ ?_; rotate_left
          ·intro w'; go_simp; with_reducible rfl
          rotate_left
          ·simp only [Act.put, List.setIfInBounds_toArray, List.set_cons_zero, List.set_cons_succ, i64_w, i32_w]; rfl
          refine pure_ (i := 6) (N := some 29) (v := ?_) (a' := ?_) (bitsL 28 102) rfl rfl (any_of HT_.out (by kernel_rfl)) (fun _ _ _ h => h) (Or.inl ⟨by rfl, ?_⟩) ?_ ?_; rotate_left
          ·intro w'; go_simp; with_reducible rfl
          rotate_left
          ·simp only [Act.put, List.setIfInBounds_toArray, List.set_cons_zero, List.set_cons_succ, i64_w, i32_w]; rfl
          refine pure_ (i := 9) (N := some 32) (v := ?_) (a' := ?_) (bitsL 28 614) rfl rfl (any_of HT_.out (by kernel_rfl)) (fun _ _ _ h => h) (Or.inl ⟨by rfl, ?_⟩) ?_ ?_; rotate_left
          ·intro w'; go_simp; with_reducible rfl
          rotate_left
          ·simp only [Act.put, List.setIfInBounds_toArray, List.set_cons_zero, List.set_cons_succ, i64_w, i32_w]; rfl
          refine pure_ (i := 10) (N := some 33) (v := ?_) (a' := ?_) (bitsL 28 1638) rfl rfl (any_of HT_.out (by kernel_rfl)) (fun _ _ _ h => h) (Or.inl ⟨by rfl, ?_⟩) ?_ ?_; rotate_left
          ·intro w'; go_simp; with_reducible rfl
          rotate_left
          ·simp only [Act.put, List.setIfInBounds_toArray, List.set_cons_zero, List.set_cons_succ, i64_w, i32_w]; rfl
          refine pure_ (i := 13) (N := some 36) (v := ?_) (a' := ?_) (bitsL 28 9830) rfl rfl (any_of HT_.out (by kernel_rfl)) (fun _ _ _ h => h) (Or.inl ⟨by rfl, ?_⟩) ?_ ?_; rotate_left
          ·intro w'; go_simp; with_reducible rfl
          rotate_left
          ·simp only [Act.put, List.setIfInBounds_toArray, List.set_cons_zero, List.set_cons_succ, i64_w, i32_w]; rfl
          refine pure_ (i := 14) (N := some 37) (v := ?_) (a' := ?_) (bitsL 28 26214) rfl rfl (any_of HT_.out (by kernel_rfl)) (fun _ _ _ h => h) (Or.inl ⟨by rfl, ?_⟩) ?_ ?_; rotate_left
          ·intro w'; go_simp; with_reducible rfl
          rotate_left
          ·simp only [Act.put, List.setIfInBounds_toArray, List.set_cons_zero, List.set_cons_succ, i64_w, i32_w]; rfl
          refine pure_ (i := 17) (N := some 40) (v := ?_) (a' := ?_) (bitsL 28 157286) rfl rfl (any_of HT_.out (by kernel_rfl)) (fun _ _ _ h => h) (Or.inl ⟨by rfl, ?_⟩) ?_ ?_; rotate_left
          ·intro w'; go_simp; with_reducible rfl
          rotate_left
          ·simp only [Act.put, List.setIfInBounds_toArray, List.set_cons_zero, List.set_cons_succ, i64_w, i32_w]; rfl
          refine pure_ (i := 18) (N := some 41) (v := ?_) (a' := ?_) (bitsL 28 419430) rfl rfl (any_of HT_.out (by kernel_rfl)) (fun _ _ _ h => h) (Or.inl ⟨by rfl, ?_⟩) ?_ ?_; rotate_left
          ·intro w'; go_simp; with_reducible rfl
          rotate_left
          ·simp only [Act.put, List.setIfInBounds_toArray, List.set_cons_zero, List.set_cons_succ, i64_w, i32_w]; rfl
          refine pure_ (i := 21) (N := some 44) (v := ?_) (a' := ?_) (bitsL 28 2516582) rfl rfl (any_of HT_.out (by kernel_rfl)) (fun _ _ _ h => h) (Or.inl ⟨by rfl, ?_⟩) ?_ ?_; rotate_left
          ·intro w'; go_simp; with_reducible rfl
          rotate_left
          ·simp only [Act.put, List.setIfInBounds_toArray, List.set_cons_zero, List.set_cons_succ, i64_w, i32_w]; rfl
          refine pure_ (i := 22) (N := some 45) (v := ?_) (a' := ?_) (bitsL 28 6710886) rfl rfl (any_of HT_.out (by kernel_rfl)) (fun _ _ _ h => h) (Or.inl ⟨by rfl, ?_⟩) ?_ ?_; rotate_left
          ·intro w'; go_simp; with_reducible rfl
          rotate_left
          ·simp only [Act.put, List.setIfInBounds_toArray, List.set_cons_zero, List.set_cons_succ, i64_w, i32_w]; rfl
          refine take_ (i := 0) (N := some 23) (v := ?_) (a' := ?_) (bitsL 28 6710887) rfl rfl (take_ofW HT_.out HW_.out (by kernel_rfl)) (fun _ _ _ h => h) (Or.inl ⟨by rfl, ?_⟩) hHeld ?_ ?_; rotate_left
          ·rintro w' ⟨s0, s1, s2, s3, s4, s5, s6, s7⟩; go_simp; with_reducible rfl
          rotate_left
          ·simp only [Act.put, List.setIfInBounds_toArray, List.set_cons_zero, List.set_cons_succ, i64_w, i32_w]; rfl
          refine take_ (i := 3) (N := some 26) (v := ?_) (a' := ?_) (bitsL 28 6710895) rfl rfl (take_ofW HT_.out HW_.out (by kernel_rfl)) (fun _ _ _ h => h) (Or.inl ⟨by rfl, ?_⟩) hHeld ?_ ?_; rotate_left
          ·rintro w' ⟨s0, s1, s2, s3, s4, s5, s6, s7⟩; go_simp; with_reducible rfl
          rotate_left
          ·simp only [Act.put, List.setIfInBounds_toArray, List.set_cons_zero, List.set_cons_succ, i64_w, i32_w]; rfl
          refine take_ (i := 7) (N := some 30) (v := ?_) (a' := ?_) (bitsL 28 6711023) rfl rfl (take_ofW HT_.out HW_.out (by kernel_rfl)) (fun _ _ _ h => h) (Or.inl ⟨by rfl, ?_⟩) hHeld ?_ ?_; rotate_left
          ·rintro w' ⟨s0, s1, s2, s3, s4, s5, s6, s7⟩; go_simp; with_reducible rfl
          rotate_left
          ·simp only [Act.put, List.setIfInBounds_toArray, List.set_cons_zero, List.set_cons_succ, i64_w, i32_w]; rfl
          refine pure_ (i := 8) (N := some 31) (v := ?_) (a' := ?_) (bitsL 28 6711279) rfl rfl (any_of HT_.out (by kernel_rfl)) (fun _ _ _ h => h) (Or.inl ⟨by rfl, ?_⟩) ?_ ?_; rotate_left
          ·intro w'; go_simp; with_reducible rfl
          rotate_left
          ·simp only [Act.put, List.setIfInBounds_toArray, List.set_cons_zero, List.set_cons_succ, i64_w, i32_w]; rfl
          refine take_ (i := 11) (N := some 34) (v := ?_) (a' := ?_) (bitsL 28 6713327) rfl rfl (take_ofW HT_.out HW_.out (by kernel_rfl)) (fun _ _ _ h => h) (Or.inl ⟨by rfl, ?_⟩) hHeld ?_ ?_; rotate_left
          ·rintro w' ⟨s0, s1, s2, s3, s4, s5, s6, s7⟩; go_simp; with_reducible rfl
          rotate_left
          ·simp only [Act.put, List.setIfInBounds_toArray, List.set_cons_zero, List.set_cons_succ, i64_w, i32_w]; rfl
          refine take_ (i := 15) (N := some 38) (v := ?_) (a' := ?_) (bitsL 28 6746095) rfl rfl (take_ofW HT_.out HW_.out (by kernel_rfl)) (fun _ _ _ h => h) (Or.inl ⟨by rfl, ?_⟩) hHeld ?_ ?_; rotate_left
          ·rintro w' ⟨s0, s1, s2, s3, s4, s5, s6, s7⟩; go_simp; with_reducible rfl
          rotate_left
          ·simp only [Act.put, List.setIfInBounds_toArray, List.set_cons_zero, List.set_cons_succ, i64_w, i32_w]; rfl
          refine take_ (i := 19) (N := some 42) (v := ?_) (a' := ?_) (bitsL 28 7270383) rfl rfl (take_ofW HT_.out HW_.out (by kernel_rfl)) (fun _ _ _ h => h) (Or.inl ⟨by rfl, ?_⟩) hHeld ?_ ?_; rotate_left
          ·rintro w' ⟨s0, s1, s2, s3, s4, s5, s6, s7⟩; go_simp; with_reducible rfl
          rotate_left
          ·simp only [Act.put, List.setIfInBounds_toArray, List.set_cons_zero, List.set_cons_succ, i64_w, i32_w]; rfl
          refine take_ (i := 23) (N := some 46) (v := ?_) (a' := ?_) (bitsL 28 15658991) rfl rfl (take_ofW HT_.out HW_.out (by kernel_rfl)) (fun _ _ _ h => h) (Or.inl ⟨by rfl, ?_⟩) hHeld ?_ ?_; rotate_left
          ·rintro w' ⟨s0, s1, s2, s3, s4, s5, s6, s7⟩; go_simp; with_reducible rfl
          rotate_left
          ·simp only [Act.put, List.setIfInBounds_toArray, List.set_cons_zero, List.set_cons_succ, i64_w, i32_w]; rfl
          refine join_ (σ := Nat) 1 (bitsL 28 134217727) (fun s_ => [(27, .int .i64 t292), (35, .int .i64 t295), (39, .int .i64 t297), (43, .int .i64 t299), (47, .int .i64 t301), (7, .pointer (some ⟨s_, 0, none⟩)), (48, .agg #[.string t287, .string t288, .int .i64 t292, .bool bq_, .int .i64 t295, .int .i64 t297, .int .i64 t299, .int .i64 t301])]) (fun s_ w' => (w'.cell? ⟨gb290, 0, none⟩ = some (.string t287) ∧ w'.cell? ⟨gb290, 1, none⟩ = some (.string t288) ∧ w'.cell? ⟨ad286.block, ad286.off + 1, none⟩ = some (.string (rdOf ByteArray.empty t282 1)) ∧ w'.cell? ⟨ad286.block, ad286.off + 2, none⟩ = some (.string (rdOf ByteArray.empty t282 2)) ∧ w'.cell? ⟨ad286.block, ad286.off + 3, none⟩ = some (.string (rdOf ByteArray.empty t282 3)) ∧ w'.cell? ⟨ad286.block, ad286.off + 4, none⟩ = some (.string (rdOf ByteArray.empty t282 4)) ∧ w'.cell? ⟨ad286.block, ad286.off + 5, none⟩ = some (.string (rdOf ByteArray.empty t282 5)) ∧ w'.cell? ⟨ad286.block, ad286.off + 6, none⟩ = some (.string (rdOf ByteArray.empty t282 6))) ∧ (Kd.R Kd.string 9 w' w.heap.size (fun _ => True) (.slice (some ad286) t282.length co24) t282) ∧ (w'.heap[gb281]? = some (.cells #[.string (⟨#[]⟩ : ByteArray), .string (⟨#[]⟩ : ByteArray), .int .i64 0, .bool false, .int .i64 0, .int .i64 0, .int .i64 0, .int .i64 0] 29 (0, 0))) ∧ (w'.heap[gb290]? = some (.cells #[.string t287, .string t288] 27 (0, 0))) ∧ (w'.heap[s_]? = some (.cells #[.string (⟨#[]⟩ : ByteArray), .string (⟨#[]⟩ : ByteArray), .int .i64 0, .bool false, .int .i64 0, .int .i64 0, .int .i64 0, .int .i64 0] 29 (0, 0))) ∧ (w.heap.size ≤ s_) ∧ (w.heap.size ≤ s_) ∧ (gb281 ≠ s_) ∧ (s_ ≠ gb281) ∧ (gb290 ≠ s_) ∧ (s_ ≠ gb290) ∧ (Below w.heap.size w w')) ?_ ?_; rotate_left
          ·intro hJ4_12_16_20_24_26; refine join_ (σ := Unit) 2 (bitsL 28 67108863) (fun s_ => [(27, .int .i64 t292), (35, .int .i64 t295), (39, .int .i64 t297), (43, .int .i64 t299), (47, .int .i64 t301), (48, .agg #[.string t287, .string t288, .int .i64 t292, .bool bq_, .int .i64 t295, .int .i64 t297, .int .i64 t299, .int .i64 t301])]) (fun s_ w' => (w'.cell? ⟨gb290, 0, none⟩ = some (.string t287) ∧ w'.cell? ⟨gb290, 1, none⟩ = some (.string t288) ∧ w'.cell? ⟨ad286.block, ad286.off + 1, none⟩ = some (.string (rdOf ByteArray.empty t282 1)) ∧ w'.cell? ⟨ad286.block, ad286.off + 2, none⟩ = some (.string (rdOf ByteArray.empty t282 2)) ∧ w'.cell? ⟨ad286.block, ad286.off + 3, none⟩ = some (.string (rdOf ByteArray.empty t282 3)) ∧ w'.cell? ⟨ad286.block, ad286.off + 4, none⟩ = some (.string (rdOf ByteArray.empty t282 4)) ∧ w'.cell? ⟨ad286.block, ad286.off + 5, none⟩ = some (.string (rdOf ByteArray.empty t282 5)) ∧ w'.cell? ⟨ad286.block, ad286.off + 6, none⟩ = some (.string (rdOf ByteArray.empty t282 6))) ∧ (Kd.R Kd.string 9 w' w.heap.size (fun _ => True) (.slice (some ad286) t282.length co24) t282) ∧ (w'.heap[gb281]? = some (.cells #[.string (⟨#[]⟩ : ByteArray), .string (⟨#[]⟩ : ByteArray), .int .i64 0, .bool false, .int .i64 0, .int .i64 0, .int .i64 0, .int .i64 0] 29 (0, 0))) ∧ (w'.heap[gb290]? = some (.cells #[.string t287, .string t288] 27 (0, 0))) ∧ (Below w.heap.size w w')) ?_ ?_; rotate_left
           ·intro hJ4_12_16_20_24; refine join_ (σ := Nat) 3 (bitsL 28 83886079) (fun s_ => [(27, .int .i64 t292), (35, .int .i64 t295), (39, .int .i64 t297), (43, .int .i64 t299), (7, .pointer (some ⟨s_, 0, none⟩))]) (fun s_ w' => (w'.cell? ⟨gb290, 0, none⟩ = some (.string t287) ∧ w'.cell? ⟨gb290, 1, none⟩ = some (.string t288) ∧ w'.cell? ⟨ad286.block, ad286.off + 1, none⟩ = some (.string (rdOf ByteArray.empty t282 1)) ∧ w'.cell? ⟨ad286.block, ad286.off + 2, none⟩ = some (.string (rdOf ByteArray.empty t282 2)) ∧ w'.cell? ⟨ad286.block, ad286.off + 3, none⟩ = some (.string (rdOf ByteArray.empty t282 3)) ∧ w'.cell? ⟨ad286.block, ad286.off + 4, none⟩ = some (.string (rdOf ByteArray.empty t282 4)) ∧ w'.cell? ⟨ad286.block, ad286.off + 5, none⟩ = some (.string (rdOf ByteArray.empty t282 5)) ∧ w'.cell? ⟨ad286.block, ad286.off + 6, none⟩ = some (.string (rdOf ByteArray.empty t282 6))) ∧ (Kd.R Kd.string 9 w' w.heap.size (fun _ => True) (.slice (some ad286) t282.length co24) t282) ∧ (w'.heap[gb281]? = some (.cells #[.string (⟨#[]⟩ : ByteArray), .string (⟨#[]⟩ : ByteArray), .int .i64 0, .bool false, .int .i64 0, .int .i64 0, .int .i64 0, .int .i64 0] 29 (0, 0))) ∧ (w'.heap[gb290]? = some (.cells #[.string t287, .string t288] 27 (0, 0))) ∧ (w'.heap[s_]? = some (.cells #[.string (⟨#[]⟩ : ByteArray), .string (⟨#[]⟩ : ByteArray), .int .i64 0, .bool false, .int .i64 0, .int .i64 0, .int .i64 0, .int .i64 0] 29 (0, 0))) ∧ (w.heap.size ≤ s_) ∧ (w.heap.size ≤ s_) ∧ (gb281 ≠ s_) ∧ (s_ ≠ gb281) ∧ (gb290 ≠ s_) ∧ (s_ ≠ gb290) ∧ (Below w.heap.size w w')) ?_ ?_; rotate_left
            ·intro hJ4_12_16_20_26; refine join_ (σ := Unit) 4 (bitsL 28 16777215) (fun s_ => [(27, .int .i64 t292), (35, .int .i64 t295), (39, .int .i64 t297), (43, .int .i64 t299)]) (fun s_ w' => (w'.cell? ⟨gb290, 0, none⟩ = some (.string t287) ∧ w'.cell? ⟨gb290, 1, none⟩ = some (.string t288) ∧ w'.cell? ⟨ad286.block, ad286.off + 1, none⟩ = some (.string (rdOf ByteArray.empty t282 1)) ∧ w'.cell? ⟨ad286.block, ad286.off + 2, none⟩ = some (.string (rdOf ByteArray.empty t282 2)) ∧ w'.cell? ⟨ad286.block, ad286.off + 3, none⟩ = some (.string (rdOf ByteArray.empty t282 3)) ∧ w'.cell? ⟨ad286.block, ad286.off + 4, none⟩ = some (.string (rdOf ByteArray.empty t282 4)) ∧ w'.cell? ⟨ad286.block, ad286.off + 5, none⟩ = some (.string (rdOf ByteArray.empty t282 5)) ∧ w'.cell? ⟨ad286.block, ad286.off + 6, none⟩ = some (.string (rdOf ByteArray.empty t282 6))) ∧ (Kd.R Kd.string 9 w' w.heap.size (fun _ => True) (.slice (some ad286) t282.length co24) t282) ∧ (w'.heap[gb281]? = some (.cells #[.string (⟨#[]⟩ : ByteArray), .string (⟨#[]⟩ : ByteArray), .int .i64 0, .bool false, .int .i64 0, .int .i64 0, .int .i64 0, .int .i64 0] 29 (0, 0))) ∧ (w'.heap[gb290]? = some (.cells #[.string t287, .string t288] 27 (0, 0))) ∧ (Below w.heap.size w w')) ?_ ?_; rotate_left
             ·intro hJ4_12_16_20; refine join_ (σ := Nat) 4 (bitsL 28 82837503) (fun s_ => [(27, .int .i64 t292), (35, .int .i64 t295), (39, .int .i64 t297), (7, .pointer (some ⟨s_, 0, none⟩))]) (fun s_ w' => (w'.cell? ⟨gb290, 0, none⟩ = some (.string t287) ∧ w'.cell? ⟨gb290, 1, none⟩ = some (.string t288) ∧ w'.cell? ⟨ad286.block, ad286.off + 1, none⟩ = some (.string (rdOf ByteArray.empty t282 1)) ∧ w'.cell? ⟨ad286.block, ad286.off + 2, none⟩ = some (.string (rdOf ByteArray.empty t282 2)) ∧ w'.cell? ⟨ad286.block, ad286.off + 3, none⟩ = some (.string (rdOf ByteArray.empty t282 3)) ∧ w'.cell? ⟨ad286.block, ad286.off + 4, none⟩ = some (.string (rdOf ByteArray.empty t282 4)) ∧ w'.cell? ⟨ad286.block, ad286.off + 5, none⟩ = some (.string (rdOf ByteArray.empty t282 5)) ∧ w'.cell? ⟨ad286.block, ad286.off + 6, none⟩ = some (.string (rdOf ByteArray.empty t282 6))) ∧ (Kd.R Kd.string 9 w' w.heap.size (fun _ => True) (.slice (some ad286) t282.length co24) t282) ∧ (w'.heap[gb281]? = some (.cells #[.string (⟨#[]⟩ : ByteArray), .string (⟨#[]⟩ : ByteArray), .int .i64 0, .bool false, .int .i64 0, .int .i64 0, .int .i64 0, .int .i64 0] 29 (0, 0))) ∧ (w'.heap[gb290]? = some (.cells #[.string t287, .string t288] 27 (0, 0))) ∧ (w'.heap[s_]? = some (.cells #[.string (⟨#[]⟩ : ByteArray), .string (⟨#[]⟩ : ByteArray), .int .i64 0, .bool false, .int .i64 0, .int .i64 0, .int .i64 0, .int .i64 0] 29 (0, 0))) ∧ (w.heap.size ≤ s_) ∧ (w.heap.size ≤ s_) ∧ (gb281 ≠ s_) ∧ (s_ ≠ gb281) ∧ (gb290 ≠ s_) ∧ (s_ ≠ gb290) ∧ (Below w.heap.size w w')) ?_ ?_; rotate_left
              ·intro hJ4_12_16_26; refine join_ (σ := Unit) 5 (bitsL 28 15728639) (fun s_ => [(27, .int .i64 t292), (35, .int .i64 t295), (39, .int .i64 t297)]) (fun s_ w' => (w'.cell? ⟨gb290, 0, none⟩ = some (.string t287) ∧ w'.cell? ⟨gb290, 1, none⟩ = some (.string t288) ∧ w'.cell? ⟨ad286.block, ad286.off + 1, none⟩ = some (.string (rdOf ByteArray.empty t282 1)) ∧ w'.cell? ⟨ad286.block, ad286.off + 2, none⟩ = some (.string (rdOf ByteArray.empty t282 2)) ∧ w'.cell? ⟨ad286.block, ad286.off + 3, none⟩ = some (.string (rdOf ByteArray.empty t282 3)) ∧ w'.cell? ⟨ad286.block, ad286.off + 4, none⟩ = some (.string (rdOf ByteArray.empty t282 4)) ∧ w'.cell? ⟨ad286.block, ad286.off + 5, none⟩ = some (.string (rdOf ByteArray.empty t282 5)) ∧ w'.cell? ⟨ad286.block, ad286.off + 6, none⟩ = some (.string (rdOf ByteArray.empty t282 6))) ∧ (Kd.R Kd.string 9 w' w.heap.size (fun _ => True) (.slice (some ad286) t282.length co24) t282) ∧ (w'.heap[gb281]? = some (.cells #[.string (⟨#[]⟩ : ByteArray), .string (⟨#[]⟩ : ByteArray), .int .i64 0, .bool false, .int .i64 0, .int .i64 0, .int .i64 0, .int .i64 0] 29 (0, 0))) ∧ (w'.heap[gb290]? = some (.cells #[.string t287, .string t288] 27 (0, 0))) ∧ (Below w.heap.size w w')) ?_ ?_; rotate_left
               ·intro hJ4_12_16; refine join_ (σ := Nat) 5 (bitsL 28 82771967) (fun s_ => [(27, .int .i64 t292), (35, .int .i64 t295), (7, .pointer (some ⟨s_, 0, none⟩))]) (fun s_ w' => (w'.cell? ⟨gb290, 0, none⟩ = some (.string t287) ∧ w'.cell? ⟨gb290, 1, none⟩ = some (.string t288) ∧ w'.cell? ⟨ad286.block, ad286.off + 1, none⟩ = some (.string (rdOf ByteArray.empty t282 1)) ∧ w'.cell? ⟨ad286.block, ad286.off + 2, none⟩ = some (.string (rdOf ByteArray.empty t282 2)) ∧ w'.cell? ⟨ad286.block, ad286.off + 3, none⟩ = some (.string (rdOf ByteArray.empty t282 3)) ∧ w'.cell? ⟨ad286.block, ad286.off + 4, none⟩ = some (.string (rdOf ByteArray.empty t282 4)) ∧ w'.cell? ⟨ad286.block, ad286.off + 5, none⟩ = some (.string (rdOf ByteArray.empty t282 5)) ∧ w'.cell? ⟨ad286.block, ad286.off + 6, none⟩ = some (.string (rdOf ByteArray.empty t282 6))) ∧ (Kd.R Kd.string 9 w' w.heap.size (fun _ => True) (.slice (some ad286) t282.length co24) t282) ∧ (w'.heap[gb281]? = some (.cells #[.string (⟨#[]⟩ : ByteArray), .string (⟨#[]⟩ : ByteArray), .int .i64 0, .bool false, .int .i64 0, .int .i64 0, .int .i64 0, .int .i64 0] 29 (0, 0))) ∧ (w'.heap[gb290]? = some (.cells #[.string t287, .string t288] 27 (0, 0))) ∧ (w'.heap[s_]? = some (.cells #[.string (⟨#[]⟩ : ByteArray), .string (⟨#[]⟩ : ByteArray), .int .i64 0, .bool false, .int .i64 0, .int .i64 0, .int .i64 0, .int .i64 0] 29 (0, 0))) ∧ (w.heap.size ≤ s_) ∧ (w.heap.size ≤ s_) ∧ (gb281 ≠ s_) ∧ (s_ ≠ gb281) ∧ (gb290 ≠ s_) ∧ (s_ ≠ gb290) ∧ (Below w.heap.size w w')) ?_ ?_; rotate_left
                ·intro hJ4_12_26; refine join_ (σ := Unit) 6 (bitsL 28 15663103) (fun s_ => [(27, .int .i64 t292), (35, .int .i64 t295)]) (fun s_ w' => (w'.cell? ⟨gb290, 0, none⟩ = some (.string t287) ∧ w'.cell? ⟨gb290, 1, none⟩ = some (.string t288) ∧ w'.cell? ⟨ad286.block, ad286.off + 1, none⟩ = some (.string (rdOf ByteArray.empty t282 1)) ∧ w'.cell? ⟨ad286.block, ad286.off + 2, none⟩ = some (.string (rdOf ByteArray.empty t282 2)) ∧ w'.cell? ⟨ad286.block, ad286.off + 3, none⟩ = some (.string (rdOf ByteArray.empty t282 3)) ∧ w'.cell? ⟨ad286.block, ad286.off + 4, none⟩ = some (.string (rdOf ByteArray.empty t282 4)) ∧ w'.cell? ⟨ad286.block, ad286.off + 5, none⟩ = some (.string (rdOf ByteArray.empty t282 5)) ∧ w'.cell? ⟨ad286.block, ad286.off + 6, none⟩ = some (.string (rdOf ByteArray.empty t282 6))) ∧ (Kd.R Kd.string 9 w' w.heap.size (fun _ => True) (.slice (some ad286) t282.length co24) t282) ∧ (w'.heap[gb281]? = some (.cells #[.string (⟨#[]⟩ : ByteArray), .string (⟨#[]⟩ : ByteArray), .int .i64 0, .bool false, .int .i64 0, .int .i64 0, .int .i64 0, .int .i64 0] 29 (0, 0))) ∧ (w'.heap[gb290]? = some (.cells #[.string t287, .string t288] 27 (0, 0))) ∧ (Below w.heap.size w w')) ?_ ?_; rotate_left
                 ·intro hJ4_12; refine join_ (σ := Nat) 6 (bitsL 28 82767871) (fun s_ => [(27, .int .i64 t292), (7, .pointer (some ⟨s_, 0, none⟩))]) (fun s_ w' => (w'.cell? ⟨gb290, 0, none⟩ = some (.string t287) ∧ w'.cell? ⟨gb290, 1, none⟩ = some (.string t288) ∧ w'.cell? ⟨ad286.block, ad286.off + 1, none⟩ = some (.string (rdOf ByteArray.empty t282 1)) ∧ w'.cell? ⟨ad286.block, ad286.off + 2, none⟩ = some (.string (rdOf ByteArray.empty t282 2)) ∧ w'.cell? ⟨ad286.block, ad286.off + 3, none⟩ = some (.string (rdOf ByteArray.empty t282 3)) ∧ w'.cell? ⟨ad286.block, ad286.off + 4, none⟩ = some (.string (rdOf ByteArray.empty t282 4)) ∧ w'.cell? ⟨ad286.block, ad286.off + 5, none⟩ = some (.string (rdOf ByteArray.empty t282 5)) ∧ w'.cell? ⟨ad286.block, ad286.off + 6, none⟩ = some (.string (rdOf ByteArray.empty t282 6))) ∧ (Kd.R Kd.string 9 w' w.heap.size (fun _ => True) (.slice (some ad286) t282.length co24) t282) ∧ (w'.heap[gb281]? = some (.cells #[.string (⟨#[]⟩ : ByteArray), .string (⟨#[]⟩ : ByteArray), .int .i64 0, .bool false, .int .i64 0, .int .i64 0, .int .i64 0, .int .i64 0] 29 (0, 0))) ∧ (w'.heap[gb290]? = some (.cells #[.string t287, .string t288] 27 (0, 0))) ∧ (w'.heap[s_]? = some (.cells #[.string (⟨#[]⟩ : ByteArray), .string (⟨#[]⟩ : ByteArray), .int .i64 0, .bool false, .int .i64 0, .int .i64 0, .int .i64 0, .int .i64 0] 29 (0, 0))) ∧ (w.heap.size ≤ s_) ∧ (w.heap.size ≤ s_) ∧ (gb281 ≠ s_) ∧ (s_ ≠ gb281) ∧ (gb290 ≠ s_) ∧ (s_ ≠ gb290) ∧ (Below w.heap.size w w')) ?_ ?_; rotate_left
                  ·intro hJ4_26; refine join_ (σ := Unit) 7 (bitsL 28 15659007) (fun s_ => [(27, .int .i64 t292)]) (fun s_ w' => (w'.cell? ⟨gb290, 0, none⟩ = some (.string t287) ∧ w'.cell? ⟨gb290, 1, none⟩ = some (.string t288) ∧ w'.cell? ⟨ad286.block, ad286.off + 1, none⟩ = some (.string (rdOf ByteArray.empty t282 1)) ∧ w'.cell? ⟨ad286.block, ad286.off + 2, none⟩ = some (.string (rdOf ByteArray.empty t282 2)) ∧ w'.cell? ⟨ad286.block, ad286.off + 3, none⟩ = some (.string (rdOf ByteArray.empty t282 3)) ∧ w'.cell? ⟨ad286.block, ad286.off + 4, none⟩ = some (.string (rdOf ByteArray.empty t282 4)) ∧ w'.cell? ⟨ad286.block, ad286.off + 5, none⟩ = some (.string (rdOf ByteArray.empty t282 5)) ∧ w'.cell? ⟨ad286.block, ad286.off + 6, none⟩ = some (.string (rdOf ByteArray.empty t282 6))) ∧ (Kd.R Kd.string 9 w' w.heap.size (fun _ => True) (.slice (some ad286) t282.length co24) t282) ∧ (w'.heap[gb281]? = some (.cells #[.string (⟨#[]⟩ : ByteArray), .string (⟨#[]⟩ : ByteArray), .int .i64 0, .bool false, .int .i64 0, .int .i64 0, .int .i64 0, .int .i64 0] 29 (0, 0))) ∧ (w'.heap[gb290]? = some (.cells #[.string t287, .string t288] 27 (0, 0))) ∧ (Below w.heap.size w w')) ?_ ?_; rotate_left
                   ·intro hJ4; refine join_ (σ := Nat) 7 (bitsL 28 82767855) (fun s_ => [(7, .pointer (some ⟨s_, 0, none⟩))]) (fun s_ w' => (w'.cell? ⟨gb290, 0, none⟩ = some (.string t287) ∧ w'.cell? ⟨gb290, 1, none⟩ = some (.string t288) ∧ w'.cell? ⟨ad286.block, ad286.off + 1, none⟩ = some (.string (rdOf ByteArray.empty t282 1)) ∧ w'.cell? ⟨ad286.block, ad286.off + 2, none⟩ = some (.string (rdOf ByteArray.empty t282 2)) ∧ w'.cell? ⟨ad286.block, ad286.off + 3, none⟩ = some (.string (rdOf ByteArray.empty t282 3)) ∧ w'.cell? ⟨ad286.block, ad286.off + 4, none⟩ = some (.string (rdOf ByteArray.empty t282 4)) ∧ w'.cell? ⟨ad286.block, ad286.off + 5, none⟩ = some (.string (rdOf ByteArray.empty t282 5)) ∧ w'.cell? ⟨ad286.block, ad286.off + 6, none⟩ = some (.string (rdOf ByteArray.empty t282 6))) ∧ (Kd.R Kd.string 9 w' w.heap.size (fun _ => True) (.slice (some ad286) t282.length co24) t282) ∧ (w'.heap[gb281]? = some (.cells #[.string (⟨#[]⟩ : ByteArray), .string (⟨#[]⟩ : ByteArray), .int .i64 0, .bool false, .int .i64 0, .int .i64 0, .int .i64 0, .int .i64 0] 29 (0, 0))) ∧ (w'.heap[gb290]? = some (.cells #[.string t287, .string t288] 27 (0, 0))) ∧ (w'.heap[s_]? = some (.cells #[.string (⟨#[]⟩ : ByteArray), .string (⟨#[]⟩ : ByteArray), .int .i64 0, .bool false, .int .i64 0, .int .i64 0, .int .i64 0, .int .i64 0] 29 (0, 0))) ∧ (w.heap.size ≤ s_) ∧ (w.heap.size ≤ s_) ∧ (gb281 ≠ s_) ∧ (s_ ≠ gb281) ∧ (gb290 ≠ s_) ∧ (s_ ≠ gb290) ∧ (Below w.heap.size w w')) ?_ ?_; rotate_left
                    ·intro hJ26; refine two_ (i := 4) (j := 26) (Ni := some 27) (Nj := some 7) (bitsL 28 15659007) (bitsL 28 82767855) rfl rfl rfl rfl (two_of HT_.out (by kernel_rfl)) (by decide) (by decide) (fun K hK => ?_) (fun K hK => ?_)
                     ·skip
                      refine goes_ Tryz.func23 (by kernel_rfl) rfl #[.string (rdOf ByteArray.empty t282 1)] (by rfl) rfl rfl am ?_; with_reducible refine (roster_Mode.calls k (rdOf ByteArray.empty t282 1) t292 _ A7.out).mono ?_
                      rintro e w' ⟨rfl, ⟨nd, rfl⟩⟩; refine ⟨_, rfl, ?_⟩; refine hK.out _ _ ⟨(blk_cell BK290.out 0).trans rfl, (blk_cell BK290.out 1).trans rfl, hHeld.2.2.1, hHeld.2.2.2.1, hHeld.2.2.2.2.1, hHeld.2.2.2.2.2.1, hHeld.2.2.2.2.2.2.1, hHeld.2.2.2.2.2.2.2⟩ (fun hHeld => ?_); clear hK K; refine norm_ (a' := ?_) ?_ ?_; rotate_left
                      ·show Act.put _ (some 27) _ = _
                       simp only [Act.put, List.setIfInBounds_toArray, List.set_cons_zero, List.set_cons_succ, i64_w, i32_w]; rfl
                      exact norm_ (by first | (simp only [putAll, Act.put, List.setIfInBounds_toArray, List.set_cons_zero, List.set_cons_succ]; done) | (simp only [putAll, Act.put, List.setIfInBounds_toArray, List.set_cons_zero, List.set_cons_succ]; rfl)) (hJ4 () _ ⟨hHeld, (ra HO285.out), bk, bk, bwS⟩)
                     skip
                     refine box_step ?hg (N := 7) ?hd (cs := #[.string (⟨#[]⟩ : ByteArray), .string (⟨#[]⟩ : ByteArray), .int .i64 0, .bool false, .int .i64 0, .int .i64 0, .int .i64 0, .int .i64 0]) (t := 29) ?hr ?_; (case hd => rfl); (case hg => rfl); (case hr => first | (go_simp; done) | (go_simp; rfl))
                     intro gb302 hg w31 hbox hb; have HS2_ := (hb.cell (World.block_lt_of_cell? _ _ (hHeld.2.2.1))).trans (hHeld.2.2.1); have HS3_ := (hb.cell (World.block_lt_of_cell? _ _ (hHeld.2.2.2.1))).trans (hHeld.2.2.2.1); have HS4_ := (hb.cell (World.block_lt_of_cell? _ _ (hHeld.2.2.2.2.1))).trans (hHeld.2.2.2.2.1); have HS5_ := (hb.cell (World.block_lt_of_cell? _ _ (hHeld.2.2.2.2.2.1))).trans (hHeld.2.2.2.2.2.1); have HS6_ := (hb.cell (World.block_lt_of_cell? _ _ (hHeld.2.2.2.2.2.2.1))).trans (hHeld.2.2.2.2.2.2.1); have HS7_ := (hb.cell (World.block_lt_of_cell? _ _ (hHeld.2.2.2.2.2.2.2))).trans (hHeld.2.2.2.2.2.2.2); have n0_ := Aside0.mk (Kd.R_below (ra HO285.out) hb); have n1_ := Aside0.mk (blk_below (g := gb281) (o := .cells #[.string (⟨#[]⟩ : ByteArray), .string (⟨#[]⟩ : ByteArray), .int .i64 0, .bool false, .int .i64 0, .int .i64 0, .int .i64 0, .int .i64 0] 29 (0, 0)) bk hb); have n2_ := Aside0.mk (blk_below (g := gb290) (o := .cells #[.string t287, .string t288] 27 (0, 0)) bk hb); have n3_ := Aside0.mk (below_step bwS hb); have n4_ := Aside0.mk (hbox); have n5_ := Aside0.mk ((by rw [hg]; exact (below_size bwS) : w.heap.size ≤ gb302)); have n6_ := Aside0.mk ((by rw [hg]; exact (below_size bwS) : w.heap.size ≤ gb302)); have n7_ := Aside0.mk ((by rw [hg]; exact Nat.ne_of_lt (blk_lt (g := gb281) (o := .cells #[.string (⟨#[]⟩ : ByteArray), .string (⟨#[]⟩ : ByteArray), .int .i64 0, .bool false, .int .i64 0, .int .i64 0, .int .i64 0, .int .i64 0] 29 (0, 0)) bk) : gb281 ≠ gb302)); have n8_ := Aside0.mk ((by rw [hg]; exact Nat.ne_of_gt (blk_lt (g := gb281) (o := .cells #[.string (⟨#[]⟩ : ByteArray), .string (⟨#[]⟩ : ByteArray), .int .i64 0, .bool false, .int .i64 0, .int .i64 0, .int .i64 0, .int .i64 0] 29 (0, 0)) bk) : gb302 ≠ gb281)); have n9_ := Aside0.mk ((by rw [hg]; exact Nat.ne_of_lt (blk_lt (g := gb290) (o := .cells #[.string t287, .string t288] 27 (0, 0)) bk) : gb290 ≠ gb302)); have n10_ := Aside0.mk ((by rw [hg]; exact Nat.ne_of_gt (blk_lt (g := gb290) (o := .cells #[.string t287, .string t288] 27 (0, 0)) bk) : gb302 ≠ gb290)); clear HO285 BK281 BK290 HB; have HO285 := n0_; have BK281 := n1_; have BK290 := n2_; have HB := n3_; have BK302 := n4_; have GW302 := n5_; have GE302 := n6_; have NB281_302 := n7_; have NB302_281 := n8_; have NB290_302 := n9_; have NB302_290 := n10_; clear n0_ n1_ n2_ n3_ n4_ n5_ n6_ n7_ n8_ n9_ n10_ hb hbox hg; refine hK.out _ _ ⟨(blk_cell BK290.out 0).trans rfl, (blk_cell BK290.out 1).trans rfl, HS2_, HS3_, HS4_, HS5_, HS6_, HS7_⟩ (fun hHeld => ?_); clear hK K; refine norm_ (a' := ?_) ?_ ?_; rotate_left
                     ·show Act.put _ (some 7) _ = _
                      simp only [Act.put, List.setIfInBounds_toArray, List.set_cons_zero, List.set_cons_succ, i64_w, i32_w]; rfl
                     exact norm_ (by first | (simp only [putAll, Act.put, List.setIfInBounds_toArray, List.set_cons_zero, List.set_cons_succ]; done) | (simp only [putAll, Act.put, List.setIfInBounds_toArray, List.set_cons_zero, List.set_cons_succ]; rfl)) (hJ26 (gb302) _ ⟨hHeld, (ra HO285.out), bk, bk, bk, GW302.out, GE302.out, NB281_302.out, NB302_281.out, NB290_302.out, NB302_290.out, bwS⟩)
                    skip
                    rintro gb302 w32 ⟨hS_, h0_, h1_, h2_, h3_, h4_, h5_, h6_, h7_, h8_, h9_, h10_⟩; have n0_ : Aside0 (Kd.R Kd.string 9 w32 w.heap.size (fun _ => True) (.slice (some ad286) t282.length co24) t282) := ⟨h0_⟩
                    have n1_ : Aside0 (w32.heap[gb281]? = some (.cells #[.string (⟨#[]⟩ : ByteArray), .string (⟨#[]⟩ : ByteArray), .int .i64 0, .bool false, .int .i64 0, .int .i64 0, .int .i64 0, .int .i64 0] 29 (0, 0))) := ⟨h1_⟩
                    have n2_ : Aside0 (w32.heap[gb290]? = some (.cells #[.string t287, .string t288] 27 (0, 0))) := ⟨h2_⟩
                    have n3_ : Aside0 (w32.heap[gb302]? = some (.cells #[.string (⟨#[]⟩ : ByteArray), .string (⟨#[]⟩ : ByteArray), .int .i64 0, .bool false, .int .i64 0, .int .i64 0, .int .i64 0, .int .i64 0] 29 (0, 0))) := ⟨h3_⟩
                    have n4_ : Aside0 (w.heap.size ≤ gb302) := ⟨h4_⟩
                    have n5_ : Aside0 (w.heap.size ≤ gb302) := ⟨h5_⟩
                    have n6_ : Aside0 (gb281 ≠ gb302) := ⟨h6_⟩
                    have n7_ : Aside0 (gb302 ≠ gb281) := ⟨h7_⟩
                    have n8_ : Aside0 (gb290 ≠ gb302) := ⟨h8_⟩
                    have n9_ : Aside0 (gb302 ≠ gb290) := ⟨h9_⟩
                    have n10_ : Aside0 (Below w.heap.size w w32) := ⟨h10_⟩
                    clear HO285 BK281 BK290 HB h0_ h1_ h2_ h3_ h4_ h5_ h6_ h7_ h8_ h9_ h10_; have HO285 := n0_; have BK281 := n1_; have BK290 := n2_; have BK302 := n3_; have GW302 := n4_; have GE302 := n5_; have NB281_302 := n6_; have NB302_281 := n7_; have NB290_302 := n8_; have NB302_290 := n9_; have HB := n10_; clear n0_ n1_ n2_ n3_ n4_ n5_ n6_ n7_ n8_ n9_ n10_; have hHeld : w32.cell? ⟨gb290, 0, none⟩ = some (.string t287) ∧ w32.cell? ⟨gb290, 1, none⟩ = some (.string t288) ∧ w32.cell? ⟨ad286.block, ad286.off + 1, none⟩ = some (.string (rdOf ByteArray.empty t282 1)) ∧ w32.cell? ⟨ad286.block, ad286.off + 2, none⟩ = some (.string (rdOf ByteArray.empty t282 2)) ∧ w32.cell? ⟨ad286.block, ad286.off + 3, none⟩ = some (.string (rdOf ByteArray.empty t282 3)) ∧ w32.cell? ⟨ad286.block, ad286.off + 4, none⟩ = some (.string (rdOf ByteArray.empty t282 4)) ∧ w32.cell? ⟨ad286.block, ad286.off + 5, none⟩ = some (.string (rdOf ByteArray.empty t282 5)) ∧ w32.cell? ⟨ad286.block, ad286.off + 6, none⟩ = some (.string (rdOf ByteArray.empty t282 6)) := hS_; refine norm_ (a' := ?_) ?_ ?_; rotate_left
                    ·simp only [putAll, Act.put, List.setIfInBounds_toArray, List.set_cons_zero, List.set_cons_succ]; rfl
                    refine one_ (i := 4) (N := some 27) (bitsL 28 82767871) rfl rfl (one_of HT_.out (by kernel_rfl)) (by decide) (fun K hK => ?_); refine goes_ Tryz.func23 (by kernel_rfl) rfl #[.string (rdOf ByteArray.empty t282 1)] (by rfl) rfl rfl am ?_; with_reducible refine (roster_Mode.calls k (rdOf ByteArray.empty t282 1) t292 _ A7.out).mono ?_
                    rintro e w' ⟨rfl, ⟨nd, rfl⟩⟩; refine ⟨_, rfl, ?_⟩; refine hK.out _ _ ⟨(blk_cell BK290.out 0).trans rfl, (blk_cell BK290.out 1).trans rfl, hHeld.2.2.1, hHeld.2.2.2.1, hHeld.2.2.2.2.1, hHeld.2.2.2.2.2.1, hHeld.2.2.2.2.2.2.1, hHeld.2.2.2.2.2.2.2⟩ (fun hHeld => ?_); clear hK K; refine norm_ (a' := ?_) ?_ ?_; rotate_left
                    ·show Act.put _ (some 27) _ = _
                     simp only [Act.put, List.setIfInBounds_toArray, List.set_cons_zero, List.set_cons_succ, i64_w, i32_w]; rfl
                    exact norm_ (by first | (simp only [putAll, Act.put, List.setIfInBounds_toArray, List.set_cons_zero, List.set_cons_succ]; done) | (simp only [putAll, Act.put, List.setIfInBounds_toArray, List.set_cons_zero, List.set_cons_succ]; rfl)) (hJ4_26 (gb302) _ ⟨hHeld, (ra HO285.out), bk, bk, bk, GW302.out, GE302.out, NB281_302.out, NB302_281.out, NB290_302.out, NB302_290.out, bwS⟩)
                   skip
                   rintro _ w31 ⟨hS_, h0_, h1_, h2_, h3_⟩; have n0_ : Aside0 (Kd.R Kd.string 9 w31 w.heap.size (fun _ => True) (.slice (some ad286) t282.length co24) t282) := ⟨h0_⟩
                   have n1_ : Aside0 (w31.heap[gb281]? = some (.cells #[.string (⟨#[]⟩ : ByteArray), .string (⟨#[]⟩ : ByteArray), .int .i64 0, .bool false, .int .i64 0, .int .i64 0, .int .i64 0, .int .i64 0] 29 (0, 0))) := ⟨h1_⟩
                   have n2_ : Aside0 (w31.heap[gb290]? = some (.cells #[.string t287, .string t288] 27 (0, 0))) := ⟨h2_⟩
                   have n3_ : Aside0 (Below w.heap.size w w31) := ⟨h3_⟩
                   clear HO285 BK281 BK290 HB h0_ h1_ h2_ h3_; have HO285 := n0_; have BK281 := n1_; have BK290 := n2_; have HB := n3_; clear n0_ n1_ n2_ n3_; have hHeld : w31.cell? ⟨gb290, 0, none⟩ = some (.string t287) ∧ w31.cell? ⟨gb290, 1, none⟩ = some (.string t288) ∧ w31.cell? ⟨ad286.block, ad286.off + 1, none⟩ = some (.string (rdOf ByteArray.empty t282 1)) ∧ w31.cell? ⟨ad286.block, ad286.off + 2, none⟩ = some (.string (rdOf ByteArray.empty t282 2)) ∧ w31.cell? ⟨ad286.block, ad286.off + 3, none⟩ = some (.string (rdOf ByteArray.empty t282 3)) ∧ w31.cell? ⟨ad286.block, ad286.off + 4, none⟩ = some (.string (rdOf ByteArray.empty t282 4)) ∧ w31.cell? ⟨ad286.block, ad286.off + 5, none⟩ = some (.string (rdOf ByteArray.empty t282 5)) ∧ w31.cell? ⟨ad286.block, ad286.off + 6, none⟩ = some (.string (rdOf ByteArray.empty t282 6)) := hS_; refine norm_ (a' := ?_) ?_ ?_; rotate_left
                   ·simp only [putAll, Act.put, List.setIfInBounds_toArray, List.set_cons_zero, List.set_cons_succ]; rfl
                   refine two_ (i := 12) (j := 26) (Ni := some 35) (Nj := some 7) (bitsL 28 15663103) (bitsL 28 82767871) rfl rfl rfl rfl (two_of HT_.out (by kernel_rfl)) (by decide) (by decide) (fun K hK => ?_) (fun K hK => ?_)
                   ·skip
                    refine goes_ Tryz.func27 (by kernel_rfl) rfl #[.string (rdOf ByteArray.empty t282 3)] (by rfl) rfl rfl am ?_; with_reducible refine (roster_figure.calls k (rdOf ByteArray.empty t282 3) t295 _ A10.out).mono ?_
                    rintro e w' ⟨rfl, ⟨nd, rfl⟩⟩; refine ⟨_, rfl, ?_⟩; refine hK.out _ _ ⟨(blk_cell BK290.out 0).trans rfl, (blk_cell BK290.out 1).trans rfl, hHeld.2.2.1, hHeld.2.2.2.1, hHeld.2.2.2.2.1, hHeld.2.2.2.2.2.1, hHeld.2.2.2.2.2.2.1, hHeld.2.2.2.2.2.2.2⟩ (fun hHeld => ?_); clear hK K; refine norm_ (a' := ?_) ?_ ?_; rotate_left
                    ·show Act.put _ (some 35) _ = _
                     simp only [Act.put, List.setIfInBounds_toArray, List.set_cons_zero, List.set_cons_succ, i64_w, i32_w]; rfl
                    exact norm_ (by first | (simp only [putAll, Act.put, List.setIfInBounds_toArray, List.set_cons_zero, List.set_cons_succ]; done) | (simp only [putAll, Act.put, List.setIfInBounds_toArray, List.set_cons_zero, List.set_cons_succ]; rfl)) (hJ4_12 () _ ⟨hHeld, (ra HO285.out), bk, bk, bwS⟩)
                   skip
                   refine box_step ?hg (N := 7) ?hd (cs := #[.string (⟨#[]⟩ : ByteArray), .string (⟨#[]⟩ : ByteArray), .int .i64 0, .bool false, .int .i64 0, .int .i64 0, .int .i64 0, .int .i64 0]) (t := 29) ?hr ?_; (case hd => rfl); (case hg => rfl); (case hr => first | (go_simp; done) | (go_simp; rfl))
                   intro gb302 hg w32 hbox hb; have HS2_ := (hb.cell (World.block_lt_of_cell? _ _ (hHeld.2.2.1))).trans (hHeld.2.2.1); have HS3_ := (hb.cell (World.block_lt_of_cell? _ _ (hHeld.2.2.2.1))).trans (hHeld.2.2.2.1); have HS4_ := (hb.cell (World.block_lt_of_cell? _ _ (hHeld.2.2.2.2.1))).trans (hHeld.2.2.2.2.1); have HS5_ := (hb.cell (World.block_lt_of_cell? _ _ (hHeld.2.2.2.2.2.1))).trans (hHeld.2.2.2.2.2.1); have HS6_ := (hb.cell (World.block_lt_of_cell? _ _ (hHeld.2.2.2.2.2.2.1))).trans (hHeld.2.2.2.2.2.2.1); have HS7_ := (hb.cell (World.block_lt_of_cell? _ _ (hHeld.2.2.2.2.2.2.2))).trans (hHeld.2.2.2.2.2.2.2); have n0_ := Aside0.mk (Kd.R_below (ra HO285.out) hb); have n1_ := Aside0.mk (blk_below (g := gb281) (o := .cells #[.string (⟨#[]⟩ : ByteArray), .string (⟨#[]⟩ : ByteArray), .int .i64 0, .bool false, .int .i64 0, .int .i64 0, .int .i64 0, .int .i64 0] 29 (0, 0)) bk hb); have n2_ := Aside0.mk (blk_below (g := gb290) (o := .cells #[.string t287, .string t288] 27 (0, 0)) bk hb); have n3_ := Aside0.mk (below_step bwS hb); have n4_ := Aside0.mk (hbox); have n5_ := Aside0.mk ((by rw [hg]; exact (below_size bwS) : w.heap.size ≤ gb302)); have n6_ := Aside0.mk ((by rw [hg]; exact (below_size bwS) : w.heap.size ≤ gb302)); have n7_ := Aside0.mk ((by rw [hg]; exact Nat.ne_of_lt (blk_lt (g := gb281) (o := .cells #[.string (⟨#[]⟩ : ByteArray), .string (⟨#[]⟩ : ByteArray), .int .i64 0, .bool false, .int .i64 0, .int .i64 0, .int .i64 0, .int .i64 0] 29 (0, 0)) bk) : gb281 ≠ gb302)); have n8_ := Aside0.mk ((by rw [hg]; exact Nat.ne_of_gt (blk_lt (g := gb281) (o := .cells #[.string (⟨#[]⟩ : ByteArray), .string (⟨#[]⟩ : ByteArray), .int .i64 0, .bool false, .int .i64 0, .int .i64 0, .int .i64 0, .int .i64 0] 29 (0, 0)) bk) : gb302 ≠ gb281)); have n9_ := Aside0.mk ((by rw [hg]; exact Nat.ne_of_lt (blk_lt (g := gb290) (o := .cells #[.string t287, .string t288] 27 (0, 0)) bk) : gb290 ≠ gb302)); have n10_ := Aside0.mk ((by rw [hg]; exact Nat.ne_of_gt (blk_lt (g := gb290) (o := .cells #[.string t287, .string t288] 27 (0, 0)) bk) : gb302 ≠ gb290)); clear HO285 BK281 BK290 HB; have HO285 := n0_; have BK281 := n1_; have BK290 := n2_; have HB := n3_; have BK302 := n4_; have GW302 := n5_; have GE302 := n6_; have NB281_302 := n7_; have NB302_281 := n8_; have NB290_302 := n9_; have NB302_290 := n10_; clear n0_ n1_ n2_ n3_ n4_ n5_ n6_ n7_ n8_ n9_ n10_ hb hbox hg; refine hK.out _ _ ⟨(blk_cell BK290.out 0).trans rfl, (blk_cell BK290.out 1).trans rfl, HS2_, HS3_, HS4_, HS5_, HS6_, HS7_⟩ (fun hHeld => ?_); clear hK K; refine norm_ (a' := ?_) ?_ ?_; rotate_left
                   ·show Act.put _ (some 7) _ = _
                    simp only [Act.put, List.setIfInBounds_toArray, List.set_cons_zero, List.set_cons_succ, i64_w, i32_w]; rfl
                   exact norm_ (by first | (simp only [putAll, Act.put, List.setIfInBounds_toArray, List.set_cons_zero, List.set_cons_succ]; done) | (simp only [putAll, Act.put, List.setIfInBounds_toArray, List.set_cons_zero, List.set_cons_succ]; rfl)) (hJ4_26 (gb302) _ ⟨hHeld, (ra HO285.out), bk, bk, bk, GW302.out, GE302.out, NB281_302.out, NB302_281.out, NB290_302.out, NB302_290.out, bwS⟩)
                  skip
                  rintro gb302 w32 ⟨hS_, h0_, h1_, h2_, h3_, h4_, h5_, h6_, h7_, h8_, h9_, h10_⟩; have n0_ : Aside0 (Kd.R Kd.string 9 w32 w.heap.size (fun _ => True) (.slice (some ad286) t282.length co24) t282) := ⟨h0_⟩
                  have n1_ : Aside0 (w32.heap[gb281]? = some (.cells #[.string (⟨#[]⟩ : ByteArray), .string (⟨#[]⟩ : ByteArray), .int .i64 0, .bool false, .int .i64 0, .int .i64 0, .int .i64 0, .int .i64 0] 29 (0, 0))) := ⟨h1_⟩
                  have n2_ : Aside0 (w32.heap[gb290]? = some (.cells #[.string t287, .string t288] 27 (0, 0))) := ⟨h2_⟩
                  have n3_ : Aside0 (w32.heap[gb302]? = some (.cells #[.string (⟨#[]⟩ : ByteArray), .string (⟨#[]⟩ : ByteArray), .int .i64 0, .bool false, .int .i64 0, .int .i64 0, .int .i64 0, .int .i64 0] 29 (0, 0))) := ⟨h3_⟩
                  have n4_ : Aside0 (w.heap.size ≤ gb302) := ⟨h4_⟩
                  have n5_ : Aside0 (w.heap.size ≤ gb302) := ⟨h5_⟩
                  have n6_ : Aside0 (gb281 ≠ gb302) := ⟨h6_⟩
                  have n7_ : Aside0 (gb302 ≠ gb281) := ⟨h7_⟩
                  have n8_ : Aside0 (gb290 ≠ gb302) := ⟨h8_⟩
                  have n9_ : Aside0 (gb302 ≠ gb290) := ⟨h9_⟩
                  have n10_ : Aside0 (Below w.heap.size w w32) := ⟨h10_⟩
                  clear HO285 BK281 BK290 HB h0_ h1_ h2_ h3_ h4_ h5_ h6_ h7_ h8_ h9_ h10_; have HO285 := n0_; have BK281 := n1_; have BK290 := n2_; have BK302 := n3_; have GW302 := n4_; have GE302 := n5_; have NB281_302 := n6_; have NB302_281 := n7_; have NB290_302 := n8_; have NB302_290 := n9_; have HB := n10_; clear n0_ n1_ n2_ n3_ n4_ n5_ n6_ n7_ n8_ n9_ n10_; have hHeld : w32.cell? ⟨gb290, 0, none⟩ = some (.string t287) ∧ w32.cell? ⟨gb290, 1, none⟩ = some (.string t288) ∧ w32.cell? ⟨ad286.block, ad286.off + 1, none⟩ = some (.string (rdOf ByteArray.empty t282 1)) ∧ w32.cell? ⟨ad286.block, ad286.off + 2, none⟩ = some (.string (rdOf ByteArray.empty t282 2)) ∧ w32.cell? ⟨ad286.block, ad286.off + 3, none⟩ = some (.string (rdOf ByteArray.empty t282 3)) ∧ w32.cell? ⟨ad286.block, ad286.off + 4, none⟩ = some (.string (rdOf ByteArray.empty t282 4)) ∧ w32.cell? ⟨ad286.block, ad286.off + 5, none⟩ = some (.string (rdOf ByteArray.empty t282 5)) ∧ w32.cell? ⟨ad286.block, ad286.off + 6, none⟩ = some (.string (rdOf ByteArray.empty t282 6)) := hS_; refine norm_ (a' := ?_) ?_ ?_; rotate_left
                  ·simp only [putAll, Act.put, List.setIfInBounds_toArray, List.set_cons_zero, List.set_cons_succ]; rfl
                  refine one_ (i := 12) (N := some 35) (bitsL 28 82771967) rfl rfl (one_of HT_.out (by kernel_rfl)) (by decide) (fun K hK => ?_); refine goes_ Tryz.func27 (by kernel_rfl) rfl #[.string (rdOf ByteArray.empty t282 3)] (by rfl) rfl rfl am ?_; with_reducible refine (roster_figure.calls k (rdOf ByteArray.empty t282 3) t295 _ A10.out).mono ?_
                  rintro e w' ⟨rfl, ⟨nd, rfl⟩⟩; refine ⟨_, rfl, ?_⟩; refine hK.out _ _ ⟨(blk_cell BK290.out 0).trans rfl, (blk_cell BK290.out 1).trans rfl, hHeld.2.2.1, hHeld.2.2.2.1, hHeld.2.2.2.2.1, hHeld.2.2.2.2.2.1, hHeld.2.2.2.2.2.2.1, hHeld.2.2.2.2.2.2.2⟩ (fun hHeld => ?_); clear hK K; refine norm_ (a' := ?_) ?_ ?_; rotate_left
                  ·show Act.put _ (some 35) _ = _
                   simp only [Act.put, List.setIfInBounds_toArray, List.set_cons_zero, List.set_cons_succ, i64_w, i32_w]; rfl
                  exact norm_ (by first | (simp only [putAll, Act.put, List.setIfInBounds_toArray, List.set_cons_zero, List.set_cons_succ]; done) | (simp only [putAll, Act.put, List.setIfInBounds_toArray, List.set_cons_zero, List.set_cons_succ]; rfl)) (hJ4_12_26 (gb302) _ ⟨hHeld, (ra HO285.out), bk, bk, bk, GW302.out, GE302.out, NB281_302.out, NB302_281.out, NB290_302.out, NB302_290.out, bwS⟩)
                 skip
                 rintro _ w31 ⟨hS_, h0_, h1_, h2_, h3_⟩; have n0_ : Aside0 (Kd.R Kd.string 9 w31 w.heap.size (fun _ => True) (.slice (some ad286) t282.length co24) t282) := ⟨h0_⟩
                 have n1_ : Aside0 (w31.heap[gb281]? = some (.cells #[.string (⟨#[]⟩ : ByteArray), .string (⟨#[]⟩ : ByteArray), .int .i64 0, .bool false, .int .i64 0, .int .i64 0, .int .i64 0, .int .i64 0] 29 (0, 0))) := ⟨h1_⟩
                 have n2_ : Aside0 (w31.heap[gb290]? = some (.cells #[.string t287, .string t288] 27 (0, 0))) := ⟨h2_⟩
                 have n3_ : Aside0 (Below w.heap.size w w31) := ⟨h3_⟩
                 clear HO285 BK281 BK290 HB h0_ h1_ h2_ h3_; have HO285 := n0_; have BK281 := n1_; have BK290 := n2_; have HB := n3_; clear n0_ n1_ n2_ n3_; have hHeld : w31.cell? ⟨gb290, 0, none⟩ = some (.string t287) ∧ w31.cell? ⟨gb290, 1, none⟩ = some (.string t288) ∧ w31.cell? ⟨ad286.block, ad286.off + 1, none⟩ = some (.string (rdOf ByteArray.empty t282 1)) ∧ w31.cell? ⟨ad286.block, ad286.off + 2, none⟩ = some (.string (rdOf ByteArray.empty t282 2)) ∧ w31.cell? ⟨ad286.block, ad286.off + 3, none⟩ = some (.string (rdOf ByteArray.empty t282 3)) ∧ w31.cell? ⟨ad286.block, ad286.off + 4, none⟩ = some (.string (rdOf ByteArray.empty t282 4)) ∧ w31.cell? ⟨ad286.block, ad286.off + 5, none⟩ = some (.string (rdOf ByteArray.empty t282 5)) ∧ w31.cell? ⟨ad286.block, ad286.off + 6, none⟩ = some (.string (rdOf ByteArray.empty t282 6)) := hS_; refine norm_ (a' := ?_) ?_ ?_; rotate_left
                 ·simp only [putAll, Act.put, List.setIfInBounds_toArray, List.set_cons_zero, List.set_cons_succ]; rfl
                 refine two_ (i := 16) (j := 26) (Ni := some 39) (Nj := some 7) (bitsL 28 15728639) (bitsL 28 82771967) rfl rfl rfl rfl (two_of HT_.out (by kernel_rfl)) (by decide) (by decide) (fun K hK => ?_) (fun K hK => ?_)
                 ·skip
                  refine goes_ Tryz.func27 (by kernel_rfl) rfl #[.string (rdOf ByteArray.empty t282 4)] (by rfl) rfl rfl am ?_; with_reducible refine (roster_figure.calls k (rdOf ByteArray.empty t282 4) t297 _ A12.out).mono ?_
                  rintro e w' ⟨rfl, ⟨nd, rfl⟩⟩; refine ⟨_, rfl, ?_⟩; refine hK.out _ _ ⟨(blk_cell BK290.out 0).trans rfl, (blk_cell BK290.out 1).trans rfl, hHeld.2.2.1, hHeld.2.2.2.1, hHeld.2.2.2.2.1, hHeld.2.2.2.2.2.1, hHeld.2.2.2.2.2.2.1, hHeld.2.2.2.2.2.2.2⟩ (fun hHeld => ?_); clear hK K; refine norm_ (a' := ?_) ?_ ?_; rotate_left
                  ·show Act.put _ (some 39) _ = _
                   simp only [Act.put, List.setIfInBounds_toArray, List.set_cons_zero, List.set_cons_succ, i64_w, i32_w]; rfl
                  exact norm_ (by first | (simp only [putAll, Act.put, List.setIfInBounds_toArray, List.set_cons_zero, List.set_cons_succ]; done) | (simp only [putAll, Act.put, List.setIfInBounds_toArray, List.set_cons_zero, List.set_cons_succ]; rfl)) (hJ4_12_16 () _ ⟨hHeld, (ra HO285.out), bk, bk, bwS⟩)
                 skip
                 refine box_step ?hg (N := 7) ?hd (cs := #[.string (⟨#[]⟩ : ByteArray), .string (⟨#[]⟩ : ByteArray), .int .i64 0, .bool false, .int .i64 0, .int .i64 0, .int .i64 0, .int .i64 0]) (t := 29) ?hr ?_; (case hd => rfl); (case hg => rfl); (case hr => first | (go_simp; done) | (go_simp; rfl))
                 intro gb302 hg w32 hbox hb; have HS2_ := (hb.cell (World.block_lt_of_cell? _ _ (hHeld.2.2.1))).trans (hHeld.2.2.1); have HS3_ := (hb.cell (World.block_lt_of_cell? _ _ (hHeld.2.2.2.1))).trans (hHeld.2.2.2.1); have HS4_ := (hb.cell (World.block_lt_of_cell? _ _ (hHeld.2.2.2.2.1))).trans (hHeld.2.2.2.2.1); have HS5_ := (hb.cell (World.block_lt_of_cell? _ _ (hHeld.2.2.2.2.2.1))).trans (hHeld.2.2.2.2.2.1); have HS6_ := (hb.cell (World.block_lt_of_cell? _ _ (hHeld.2.2.2.2.2.2.1))).trans (hHeld.2.2.2.2.2.2.1); have HS7_ := (hb.cell (World.block_lt_of_cell? _ _ (hHeld.2.2.2.2.2.2.2))).trans (hHeld.2.2.2.2.2.2.2); have n0_ := Aside0.mk (Kd.R_below (ra HO285.out) hb); have n1_ := Aside0.mk (blk_below (g := gb281) (o := .cells #[.string (⟨#[]⟩ : ByteArray), .string (⟨#[]⟩ : ByteArray), .int .i64 0, .bool false, .int .i64 0, .int .i64 0, .int .i64 0, .int .i64 0] 29 (0, 0)) bk hb); have n2_ := Aside0.mk (blk_below (g := gb290) (o := .cells #[.string t287, .string t288] 27 (0, 0)) bk hb); have n3_ := Aside0.mk (below_step bwS hb); have n4_ := Aside0.mk (hbox); have n5_ := Aside0.mk ((by rw [hg]; exact (below_size bwS) : w.heap.size ≤ gb302)); have n6_ := Aside0.mk ((by rw [hg]; exact (below_size bwS) : w.heap.size ≤ gb302)); have n7_ := Aside0.mk ((by rw [hg]; exact Nat.ne_of_lt (blk_lt (g := gb281) (o := .cells #[.string (⟨#[]⟩ : ByteArray), .string (⟨#[]⟩ : ByteArray), .int .i64 0, .bool false, .int .i64 0, .int .i64 0, .int .i64 0, .int .i64 0] 29 (0, 0)) bk) : gb281 ≠ gb302)); have n8_ := Aside0.mk ((by rw [hg]; exact Nat.ne_of_gt (blk_lt (g := gb281) (o := .cells #[.string (⟨#[]⟩ : ByteArray), .string (⟨#[]⟩ : ByteArray), .int .i64 0, .bool false, .int .i64 0, .int .i64 0, .int .i64 0, .int .i64 0] 29 (0, 0)) bk) : gb302 ≠ gb281)); have n9_ := Aside0.mk ((by rw [hg]; exact Nat.ne_of_lt (blk_lt (g := gb290) (o := .cells #[.string t287, .string t288] 27 (0, 0)) bk) : gb290 ≠ gb302)); have n10_ := Aside0.mk ((by rw [hg]; exact Nat.ne_of_gt (blk_lt (g := gb290) (o := .cells #[.string t287, .string t288] 27 (0, 0)) bk) : gb302 ≠ gb290)); clear HO285 BK281 BK290 HB; have HO285 := n0_; have BK281 := n1_; have BK290 := n2_; have HB := n3_; have BK302 := n4_; have GW302 := n5_; have GE302 := n6_; have NB281_302 := n7_; have NB302_281 := n8_; have NB290_302 := n9_; have NB302_290 := n10_; clear n0_ n1_ n2_ n3_ n4_ n5_ n6_ n7_ n8_ n9_ n10_ hb hbox hg; refine hK.out _ _ ⟨(blk_cell BK290.out 0).trans rfl, (blk_cell BK290.out 1).trans rfl, HS2_, HS3_, HS4_, HS5_, HS6_, HS7_⟩ (fun hHeld => ?_); clear hK K; refine norm_ (a' := ?_) ?_ ?_; rotate_left
                 ·show Act.put _ (some 7) _ = _
                  simp only [Act.put, List.setIfInBounds_toArray, List.set_cons_zero, List.set_cons_succ, i64_w, i32_w]; rfl
                 exact norm_ (by first | (simp only [putAll, Act.put, List.setIfInBounds_toArray, List.set_cons_zero, List.set_cons_succ]; done) | (simp only [putAll, Act.put, List.setIfInBounds_toArray, List.set_cons_zero, List.set_cons_succ]; rfl)) (hJ4_12_26 (gb302) _ ⟨hHeld, (ra HO285.out), bk, bk, bk, GW302.out, GE302.out, NB281_302.out, NB302_281.out, NB290_302.out, NB302_290.out, bwS⟩)
                skip
                rintro gb302 w32 ⟨hS_, h0_, h1_, h2_, h3_, h4_, h5_, h6_, h7_, h8_, h9_, h10_⟩; have n0_ : Aside0 (Kd.R Kd.string 9 w32 w.heap.size (fun _ => True) (.slice (some ad286) t282.length co24) t282) := ⟨h0_⟩
                have n1_ : Aside0 (w32.heap[gb281]? = some (.cells #[.string (⟨#[]⟩ : ByteArray), .string (⟨#[]⟩ : ByteArray), .int .i64 0, .bool false, .int .i64 0, .int .i64 0, .int .i64 0, .int .i64 0] 29 (0, 0))) := ⟨h1_⟩
                have n2_ : Aside0 (w32.heap[gb290]? = some (.cells #[.string t287, .string t288] 27 (0, 0))) := ⟨h2_⟩
                have n3_ : Aside0 (w32.heap[gb302]? = some (.cells #[.string (⟨#[]⟩ : ByteArray), .string (⟨#[]⟩ : ByteArray), .int .i64 0, .bool false, .int .i64 0, .int .i64 0, .int .i64 0, .int .i64 0] 29 (0, 0))) := ⟨h3_⟩
                have n4_ : Aside0 (w.heap.size ≤ gb302) := ⟨h4_⟩
                have n5_ : Aside0 (w.heap.size ≤ gb302) := ⟨h5_⟩
                have n6_ : Aside0 (gb281 ≠ gb302) := ⟨h6_⟩
                have n7_ : Aside0 (gb302 ≠ gb281) := ⟨h7_⟩
                have n8_ : Aside0 (gb290 ≠ gb302) := ⟨h8_⟩
                have n9_ : Aside0 (gb302 ≠ gb290) := ⟨h9_⟩
                have n10_ : Aside0 (Below w.heap.size w w32) := ⟨h10_⟩
                clear HO285 BK281 BK290 HB h0_ h1_ h2_ h3_ h4_ h5_ h6_ h7_ h8_ h9_ h10_; have HO285 := n0_; have BK281 := n1_; have BK290 := n2_; have BK302 := n3_; have GW302 := n4_; have GE302 := n5_; have NB281_302 := n6_; have NB302_281 := n7_; have NB290_302 := n8_; have NB302_290 := n9_; have HB := n10_; clear n0_ n1_ n2_ n3_ n4_ n5_ n6_ n7_ n8_ n9_ n10_; have hHeld : w32.cell? ⟨gb290, 0, none⟩ = some (.string t287) ∧ w32.cell? ⟨gb290, 1, none⟩ = some (.string t288) ∧ w32.cell? ⟨ad286.block, ad286.off + 1, none⟩ = some (.string (rdOf ByteArray.empty t282 1)) ∧ w32.cell? ⟨ad286.block, ad286.off + 2, none⟩ = some (.string (rdOf ByteArray.empty t282 2)) ∧ w32.cell? ⟨ad286.block, ad286.off + 3, none⟩ = some (.string (rdOf ByteArray.empty t282 3)) ∧ w32.cell? ⟨ad286.block, ad286.off + 4, none⟩ = some (.string (rdOf ByteArray.empty t282 4)) ∧ w32.cell? ⟨ad286.block, ad286.off + 5, none⟩ = some (.string (rdOf ByteArray.empty t282 5)) ∧ w32.cell? ⟨ad286.block, ad286.off + 6, none⟩ = some (.string (rdOf ByteArray.empty t282 6)) := hS_; refine norm_ (a' := ?_) ?_ ?_; rotate_left
                ·simp only [putAll, Act.put, List.setIfInBounds_toArray, List.set_cons_zero, List.set_cons_succ]; rfl
                refine one_ (i := 16) (N := some 39) (bitsL 28 82837503) rfl rfl (one_of HT_.out (by kernel_rfl)) (by decide) (fun K hK => ?_); refine goes_ Tryz.func27 (by kernel_rfl) rfl #[.string (rdOf ByteArray.empty t282 4)] (by rfl) rfl rfl am ?_; with_reducible refine (roster_figure.calls k (rdOf ByteArray.empty t282 4) t297 _ A12.out).mono ?_
                rintro e w' ⟨rfl, ⟨nd, rfl⟩⟩; refine ⟨_, rfl, ?_⟩; refine hK.out _ _ ⟨(blk_cell BK290.out 0).trans rfl, (blk_cell BK290.out 1).trans rfl, hHeld.2.2.1, hHeld.2.2.2.1, hHeld.2.2.2.2.1, hHeld.2.2.2.2.2.1, hHeld.2.2.2.2.2.2.1, hHeld.2.2.2.2.2.2.2⟩ (fun hHeld => ?_); clear hK K; refine norm_ (a' := ?_) ?_ ?_; rotate_left
                ·show Act.put _ (some 39) _ = _
                 simp only [Act.put, List.setIfInBounds_toArray, List.set_cons_zero, List.set_cons_succ, i64_w, i32_w]; rfl
                exact norm_ (by first | (simp only [putAll, Act.put, List.setIfInBounds_toArray, List.set_cons_zero, List.set_cons_succ]; done) | (simp only [putAll, Act.put, List.setIfInBounds_toArray, List.set_cons_zero, List.set_cons_succ]; rfl)) (hJ4_12_16_26 (gb302) _ ⟨hHeld, (ra HO285.out), bk, bk, bk, GW302.out, GE302.out, NB281_302.out, NB302_281.out, NB290_302.out, NB302_290.out, bwS⟩)
               skip
               rintro _ w31 ⟨hS_, h0_, h1_, h2_, h3_⟩; have n0_ : Aside0 (Kd.R Kd.string 9 w31 w.heap.size (fun _ => True) (.slice (some ad286) t282.length co24) t282) := ⟨h0_⟩
               have n1_ : Aside0 (w31.heap[gb281]? = some (.cells #[.string (⟨#[]⟩ : ByteArray), .string (⟨#[]⟩ : ByteArray), .int .i64 0, .bool false, .int .i64 0, .int .i64 0, .int .i64 0, .int .i64 0] 29 (0, 0))) := ⟨h1_⟩
               have n2_ : Aside0 (w31.heap[gb290]? = some (.cells #[.string t287, .string t288] 27 (0, 0))) := ⟨h2_⟩
               have n3_ : Aside0 (Below w.heap.size w w31) := ⟨h3_⟩
               clear HO285 BK281 BK290 HB h0_ h1_ h2_ h3_; have HO285 := n0_; have BK281 := n1_; have BK290 := n2_; have HB := n3_; clear n0_ n1_ n2_ n3_; have hHeld : w31.cell? ⟨gb290, 0, none⟩ = some (.string t287) ∧ w31.cell? ⟨gb290, 1, none⟩ = some (.string t288) ∧ w31.cell? ⟨ad286.block, ad286.off + 1, none⟩ = some (.string (rdOf ByteArray.empty t282 1)) ∧ w31.cell? ⟨ad286.block, ad286.off + 2, none⟩ = some (.string (rdOf ByteArray.empty t282 2)) ∧ w31.cell? ⟨ad286.block, ad286.off + 3, none⟩ = some (.string (rdOf ByteArray.empty t282 3)) ∧ w31.cell? ⟨ad286.block, ad286.off + 4, none⟩ = some (.string (rdOf ByteArray.empty t282 4)) ∧ w31.cell? ⟨ad286.block, ad286.off + 5, none⟩ = some (.string (rdOf ByteArray.empty t282 5)) ∧ w31.cell? ⟨ad286.block, ad286.off + 6, none⟩ = some (.string (rdOf ByteArray.empty t282 6)) := hS_; refine norm_ (a' := ?_) ?_ ?_; rotate_left
               ·simp only [putAll, Act.put, List.setIfInBounds_toArray, List.set_cons_zero, List.set_cons_succ]; rfl
               refine two_ (i := 20) (j := 26) (Ni := some 43) (Nj := some 7) (bitsL 28 16777215) (bitsL 28 82837503) rfl rfl rfl rfl (two_of HT_.out (by kernel_rfl)) (by decide) (by decide) (fun K hK => ?_) (fun K hK => ?_)
               ·skip
                refine goes_ Tryz.func27 (by kernel_rfl) rfl #[.string (rdOf ByteArray.empty t282 5)] (by rfl) rfl rfl am ?_; with_reducible refine (roster_figure.calls k (rdOf ByteArray.empty t282 5) t299 _ A14.out).mono ?_
                rintro e w' ⟨rfl, ⟨nd, rfl⟩⟩; refine ⟨_, rfl, ?_⟩; refine hK.out _ _ ⟨(blk_cell BK290.out 0).trans rfl, (blk_cell BK290.out 1).trans rfl, hHeld.2.2.1, hHeld.2.2.2.1, hHeld.2.2.2.2.1, hHeld.2.2.2.2.2.1, hHeld.2.2.2.2.2.2.1, hHeld.2.2.2.2.2.2.2⟩ (fun hHeld => ?_); clear hK K; refine norm_ (a' := ?_) ?_ ?_; rotate_left
                ·show Act.put _ (some 43) _ = _
                 simp only [Act.put, List.setIfInBounds_toArray, List.set_cons_zero, List.set_cons_succ, i64_w, i32_w]; rfl
                exact norm_ (by first | (simp only [putAll, Act.put, List.setIfInBounds_toArray, List.set_cons_zero, List.set_cons_succ]; done) | (simp only [putAll, Act.put, List.setIfInBounds_toArray, List.set_cons_zero, List.set_cons_succ]; rfl)) (hJ4_12_16_20 () _ ⟨hHeld, (ra HO285.out), bk, bk, bwS⟩)
               skip
               refine box_step ?hg (N := 7) ?hd (cs := #[.string (⟨#[]⟩ : ByteArray), .string (⟨#[]⟩ : ByteArray), .int .i64 0, .bool false, .int .i64 0, .int .i64 0, .int .i64 0, .int .i64 0]) (t := 29) ?hr ?_; (case hd => rfl); (case hg => rfl); (case hr => first | (go_simp; done) | (go_simp; rfl))
               intro gb302 hg w32 hbox hb; have HS2_ := (hb.cell (World.block_lt_of_cell? _ _ (hHeld.2.2.1))).trans (hHeld.2.2.1); have HS3_ := (hb.cell (World.block_lt_of_cell? _ _ (hHeld.2.2.2.1))).trans (hHeld.2.2.2.1); have HS4_ := (hb.cell (World.block_lt_of_cell? _ _ (hHeld.2.2.2.2.1))).trans (hHeld.2.2.2.2.1); have HS5_ := (hb.cell (World.block_lt_of_cell? _ _ (hHeld.2.2.2.2.2.1))).trans (hHeld.2.2.2.2.2.1); have HS6_ := (hb.cell (World.block_lt_of_cell? _ _ (hHeld.2.2.2.2.2.2.1))).trans (hHeld.2.2.2.2.2.2.1); have HS7_ := (hb.cell (World.block_lt_of_cell? _ _ (hHeld.2.2.2.2.2.2.2))).trans (hHeld.2.2.2.2.2.2.2); have n0_ := Aside0.mk (Kd.R_below (ra HO285.out) hb); have n1_ := Aside0.mk (blk_below (g := gb281) (o := .cells #[.string (⟨#[]⟩ : ByteArray), .string (⟨#[]⟩ : ByteArray), .int .i64 0, .bool false, .int .i64 0, .int .i64 0, .int .i64 0, .int .i64 0] 29 (0, 0)) bk hb); have n2_ := Aside0.mk (blk_below (g := gb290) (o := .cells #[.string t287, .string t288] 27 (0, 0)) bk hb); have n3_ := Aside0.mk (below_step bwS hb); have n4_ := Aside0.mk (hbox); have n5_ := Aside0.mk ((by rw [hg]; exact (below_size bwS) : w.heap.size ≤ gb302)); have n6_ := Aside0.mk ((by rw [hg]; exact (below_size bwS) : w.heap.size ≤ gb302)); have n7_ := Aside0.mk ((by rw [hg]; exact Nat.ne_of_lt (blk_lt (g := gb281) (o := .cells #[.string (⟨#[]⟩ : ByteArray), .string (⟨#[]⟩ : ByteArray), .int .i64 0, .bool false, .int .i64 0, .int .i64 0, .int .i64 0, .int .i64 0] 29 (0, 0)) bk) : gb281 ≠ gb302)); have n8_ := Aside0.mk ((by rw [hg]; exact Nat.ne_of_gt (blk_lt (g := gb281) (o := .cells #[.string (⟨#[]⟩ : ByteArray), .string (⟨#[]⟩ : ByteArray), .int .i64 0, .bool false, .int .i64 0, .int .i64 0, .int .i64 0, .int .i64 0] 29 (0, 0)) bk) : gb302 ≠ gb281)); have n9_ := Aside0.mk ((by rw [hg]; exact Nat.ne_of_lt (blk_lt (g := gb290) (o := .cells #[.string t287, .string t288] 27 (0, 0)) bk) : gb290 ≠ gb302)); have n10_ := Aside0.mk ((by rw [hg]; exact Nat.ne_of_gt (blk_lt (g := gb290) (o := .cells #[.string t287, .string t288] 27 (0, 0)) bk) : gb302 ≠ gb290)); clear HO285 BK281 BK290 HB; have HO285 := n0_; have BK281 := n1_; have BK290 := n2_; have HB := n3_; have BK302 := n4_; have GW302 := n5_; have GE302 := n6_; have NB281_302 := n7_; have NB302_281 := n8_; have NB290_302 := n9_; have NB302_290 := n10_; clear n0_ n1_ n2_ n3_ n4_ n5_ n6_ n7_ n8_ n9_ n10_ hb hbox hg; refine hK.out _ _ ⟨(blk_cell BK290.out 0).trans rfl, (blk_cell BK290.out 1).trans rfl, HS2_, HS3_, HS4_, HS5_, HS6_, HS7_⟩ (fun hHeld => ?_); clear hK K; refine norm_ (a' := ?_) ?_ ?_; rotate_left
               ·show Act.put _ (some 7) _ = _
                simp only [Act.put, List.setIfInBounds_toArray, List.set_cons_zero, List.set_cons_succ, i64_w, i32_w]; rfl
               exact norm_ (by first | (simp only [putAll, Act.put, List.setIfInBounds_toArray, List.set_cons_zero, List.set_cons_succ]; done) | (simp only [putAll, Act.put, List.setIfInBounds_toArray, List.set_cons_zero, List.set_cons_succ]; rfl)) (hJ4_12_16_26 (gb302) _ ⟨hHeld, (ra HO285.out), bk, bk, bk, GW302.out, GE302.out, NB281_302.out, NB302_281.out, NB290_302.out, NB302_290.out, bwS⟩)
              skip
              rintro gb302 w32 ⟨hS_, h0_, h1_, h2_, h3_, h4_, h5_, h6_, h7_, h8_, h9_, h10_⟩; have n0_ : Aside0 (Kd.R Kd.string 9 w32 w.heap.size (fun _ => True) (.slice (some ad286) t282.length co24) t282) := ⟨h0_⟩
              have n1_ : Aside0 (w32.heap[gb281]? = some (.cells #[.string (⟨#[]⟩ : ByteArray), .string (⟨#[]⟩ : ByteArray), .int .i64 0, .bool false, .int .i64 0, .int .i64 0, .int .i64 0, .int .i64 0] 29 (0, 0))) := ⟨h1_⟩
              have n2_ : Aside0 (w32.heap[gb290]? = some (.cells #[.string t287, .string t288] 27 (0, 0))) := ⟨h2_⟩
              have n3_ : Aside0 (w32.heap[gb302]? = some (.cells #[.string (⟨#[]⟩ : ByteArray), .string (⟨#[]⟩ : ByteArray), .int .i64 0, .bool false, .int .i64 0, .int .i64 0, .int .i64 0, .int .i64 0] 29 (0, 0))) := ⟨h3_⟩
              have n4_ : Aside0 (w.heap.size ≤ gb302) := ⟨h4_⟩
              have n5_ : Aside0 (w.heap.size ≤ gb302) := ⟨h5_⟩
              have n6_ : Aside0 (gb281 ≠ gb302) := ⟨h6_⟩
              have n7_ : Aside0 (gb302 ≠ gb281) := ⟨h7_⟩
              have n8_ : Aside0 (gb290 ≠ gb302) := ⟨h8_⟩
              have n9_ : Aside0 (gb302 ≠ gb290) := ⟨h9_⟩
              have n10_ : Aside0 (Below w.heap.size w w32) := ⟨h10_⟩
              clear HO285 BK281 BK290 HB h0_ h1_ h2_ h3_ h4_ h5_ h6_ h7_ h8_ h9_ h10_; have HO285 := n0_; have BK281 := n1_; have BK290 := n2_; have BK302 := n3_; have GW302 := n4_; have GE302 := n5_; have NB281_302 := n6_; have NB302_281 := n7_; have NB290_302 := n8_; have NB302_290 := n9_; have HB := n10_; clear n0_ n1_ n2_ n3_ n4_ n5_ n6_ n7_ n8_ n9_ n10_; have hHeld : w32.cell? ⟨gb290, 0, none⟩ = some (.string t287) ∧ w32.cell? ⟨gb290, 1, none⟩ = some (.string t288) ∧ w32.cell? ⟨ad286.block, ad286.off + 1, none⟩ = some (.string (rdOf ByteArray.empty t282 1)) ∧ w32.cell? ⟨ad286.block, ad286.off + 2, none⟩ = some (.string (rdOf ByteArray.empty t282 2)) ∧ w32.cell? ⟨ad286.block, ad286.off + 3, none⟩ = some (.string (rdOf ByteArray.empty t282 3)) ∧ w32.cell? ⟨ad286.block, ad286.off + 4, none⟩ = some (.string (rdOf ByteArray.empty t282 4)) ∧ w32.cell? ⟨ad286.block, ad286.off + 5, none⟩ = some (.string (rdOf ByteArray.empty t282 5)) ∧ w32.cell? ⟨ad286.block, ad286.off + 6, none⟩ = some (.string (rdOf ByteArray.empty t282 6)) := hS_; refine norm_ (a' := ?_) ?_ ?_; rotate_left
              ·simp only [putAll, Act.put, List.setIfInBounds_toArray, List.set_cons_zero, List.set_cons_succ]; rfl
              refine one_ (i := 20) (N := some 43) (bitsL 28 83886079) rfl rfl (one_of HT_.out (by kernel_rfl)) (by decide) (fun K hK => ?_); refine goes_ Tryz.func27 (by kernel_rfl) rfl #[.string (rdOf ByteArray.empty t282 5)] (by rfl) rfl rfl am ?_; with_reducible refine (roster_figure.calls k (rdOf ByteArray.empty t282 5) t299 _ A14.out).mono ?_
              rintro e w' ⟨rfl, ⟨nd, rfl⟩⟩; refine ⟨_, rfl, ?_⟩; refine hK.out _ _ ⟨(blk_cell BK290.out 0).trans rfl, (blk_cell BK290.out 1).trans rfl, hHeld.2.2.1, hHeld.2.2.2.1, hHeld.2.2.2.2.1, hHeld.2.2.2.2.2.1, hHeld.2.2.2.2.2.2.1, hHeld.2.2.2.2.2.2.2⟩ (fun hHeld => ?_); clear hK K; refine norm_ (a' := ?_) ?_ ?_; rotate_left
              ·show Act.put _ (some 43) _ = _
               simp only [Act.put, List.setIfInBounds_toArray, List.set_cons_zero, List.set_cons_succ, i64_w, i32_w]; rfl
              exact norm_ (by first | (simp only [putAll, Act.put, List.setIfInBounds_toArray, List.set_cons_zero, List.set_cons_succ]; done) | (simp only [putAll, Act.put, List.setIfInBounds_toArray, List.set_cons_zero, List.set_cons_succ]; rfl)) (hJ4_12_16_20_26 (gb302) _ ⟨hHeld, (ra HO285.out), bk, bk, bk, GW302.out, GE302.out, NB281_302.out, NB302_281.out, NB290_302.out, NB302_290.out, bwS⟩)
             skip
             rintro _ w31 ⟨hS_, h0_, h1_, h2_, h3_⟩; have n0_ : Aside0 (Kd.R Kd.string 9 w31 w.heap.size (fun _ => True) (.slice (some ad286) t282.length co24) t282) := ⟨h0_⟩
             have n1_ : Aside0 (w31.heap[gb281]? = some (.cells #[.string (⟨#[]⟩ : ByteArray), .string (⟨#[]⟩ : ByteArray), .int .i64 0, .bool false, .int .i64 0, .int .i64 0, .int .i64 0, .int .i64 0] 29 (0, 0))) := ⟨h1_⟩
             have n2_ : Aside0 (w31.heap[gb290]? = some (.cells #[.string t287, .string t288] 27 (0, 0))) := ⟨h2_⟩
             have n3_ : Aside0 (Below w.heap.size w w31) := ⟨h3_⟩
             clear HO285 BK281 BK290 HB h0_ h1_ h2_ h3_; have HO285 := n0_; have BK281 := n1_; have BK290 := n2_; have HB := n3_; clear n0_ n1_ n2_ n3_; have hHeld : w31.cell? ⟨gb290, 0, none⟩ = some (.string t287) ∧ w31.cell? ⟨gb290, 1, none⟩ = some (.string t288) ∧ w31.cell? ⟨ad286.block, ad286.off + 1, none⟩ = some (.string (rdOf ByteArray.empty t282 1)) ∧ w31.cell? ⟨ad286.block, ad286.off + 2, none⟩ = some (.string (rdOf ByteArray.empty t282 2)) ∧ w31.cell? ⟨ad286.block, ad286.off + 3, none⟩ = some (.string (rdOf ByteArray.empty t282 3)) ∧ w31.cell? ⟨ad286.block, ad286.off + 4, none⟩ = some (.string (rdOf ByteArray.empty t282 4)) ∧ w31.cell? ⟨ad286.block, ad286.off + 5, none⟩ = some (.string (rdOf ByteArray.empty t282 5)) ∧ w31.cell? ⟨ad286.block, ad286.off + 6, none⟩ = some (.string (rdOf ByteArray.empty t282 6)) := hS_; refine norm_ (a' := ?_) ?_ ?_; rotate_left
             ·simp only [putAll, Act.put, List.setIfInBounds_toArray, List.set_cons_zero, List.set_cons_succ]; rfl
             refine two_ (i := 24) (j := 26) (Ni := some 47) (Nj := some 7) (bitsL 28 33554431) (bitsL 28 83886079) rfl rfl rfl rfl (two_of HT_.out (by kernel_rfl)) (by decide) (by decide) (fun K hK => ?_) (fun K hK => ?_)
             ·skip
              refine goes_ Tryz.func27 (by kernel_rfl) rfl #[.string (rdOf ByteArray.empty t282 6)] (by rfl) rfl rfl am ?_; with_reducible refine (roster_figure.calls k (rdOf ByteArray.empty t282 6) t301 _ A16.out).mono ?_
              rintro e w' ⟨rfl, ⟨nd, rfl⟩⟩; refine ⟨_, rfl, ?_⟩; refine hK.out _ _ ⟨(blk_cell BK290.out 0).trans rfl, (blk_cell BK290.out 1).trans rfl, hHeld.2.2.1, hHeld.2.2.2.1, hHeld.2.2.2.2.1, hHeld.2.2.2.2.2.1, hHeld.2.2.2.2.2.2.1, hHeld.2.2.2.2.2.2.2⟩ (fun hHeld => ?_); clear hK K; refine norm_ (a' := ?_) ?_ ?_; rotate_left
              ·show Act.put _ (some 47) _ = _
               simp only [Act.put, List.setIfInBounds_toArray, List.set_cons_zero, List.set_cons_succ, i64_w, i32_w]; rfl
              refine pure_ (i := 25) (N := some 48) (v := ?_) (a' := ?_) (bitsL 28 67108863) rfl rfl (any_of HT_.out (by kernel_rfl)) (fun _ _ _ h => h) (Or.inl ⟨by rfl, ?_⟩) ?_ ?_; rotate_left
              ·intro w'; simp only [execOp, Act.eval, List.getElem_toArray, List.getElem_cons_succ, List.getElem_cons_zero, List.map_toArray, List.map_cons, List.map_nil, Array.getD_eq_getD_getElem?, List.getElem?_toArray, List.getElem?_cons_succ, List.getElem?_cons_zero, Option.getD_some]; rw [Sem.run_bind, member_build]; rfl
              rotate_left
              ·simp only [Act.put, List.setIfInBounds_toArray, List.set_cons_zero, List.set_cons_succ, i64_w, i32_w]; rfl
              exact norm_ (by first | (simp only [putAll, Act.put, List.setIfInBounds_toArray, List.set_cons_zero, List.set_cons_succ]; done) | (simp only [putAll, Act.put, List.setIfInBounds_toArray, List.set_cons_zero, List.set_cons_succ]; rfl)) (hJ4_12_16_20_24 () _ ⟨hHeld, (ra HO285.out), bk, bk, bwS⟩)
             skip
             refine box_step ?hg (N := 7) ?hd (cs := #[.string (⟨#[]⟩ : ByteArray), .string (⟨#[]⟩ : ByteArray), .int .i64 0, .bool false, .int .i64 0, .int .i64 0, .int .i64 0, .int .i64 0]) (t := 29) ?hr ?_; (case hd => rfl); (case hg => rfl); (case hr => first | (go_simp; done) | (go_simp; rfl))
             intro gb302 hg w32 hbox hb; have HS2_ := (hb.cell (World.block_lt_of_cell? _ _ (hHeld.2.2.1))).trans (hHeld.2.2.1); have HS3_ := (hb.cell (World.block_lt_of_cell? _ _ (hHeld.2.2.2.1))).trans (hHeld.2.2.2.1); have HS4_ := (hb.cell (World.block_lt_of_cell? _ _ (hHeld.2.2.2.2.1))).trans (hHeld.2.2.2.2.1); have HS5_ := (hb.cell (World.block_lt_of_cell? _ _ (hHeld.2.2.2.2.2.1))).trans (hHeld.2.2.2.2.2.1); have HS6_ := (hb.cell (World.block_lt_of_cell? _ _ (hHeld.2.2.2.2.2.2.1))).trans (hHeld.2.2.2.2.2.2.1); have HS7_ := (hb.cell (World.block_lt_of_cell? _ _ (hHeld.2.2.2.2.2.2.2))).trans (hHeld.2.2.2.2.2.2.2); have n0_ := Aside0.mk (Kd.R_below (ra HO285.out) hb); have n1_ := Aside0.mk (blk_below (g := gb281) (o := .cells #[.string (⟨#[]⟩ : ByteArray), .string (⟨#[]⟩ : ByteArray), .int .i64 0, .bool false, .int .i64 0, .int .i64 0, .int .i64 0, .int .i64 0] 29 (0, 0)) bk hb); have n2_ := Aside0.mk (blk_below (g := gb290) (o := .cells #[.string t287, .string t288] 27 (0, 0)) bk hb); have n3_ := Aside0.mk (below_step bwS hb); have n4_ := Aside0.mk (hbox); have n5_ := Aside0.mk ((by rw [hg]; exact (below_size bwS) : w.heap.size ≤ gb302)); have n6_ := Aside0.mk ((by rw [hg]; exact (below_size bwS) : w.heap.size ≤ gb302)); have n7_ := Aside0.mk ((by rw [hg]; exact Nat.ne_of_lt (blk_lt (g := gb281) (o := .cells #[.string (⟨#[]⟩ : ByteArray), .string (⟨#[]⟩ : ByteArray), .int .i64 0, .bool false, .int .i64 0, .int .i64 0, .int .i64 0, .int .i64 0] 29 (0, 0)) bk) : gb281 ≠ gb302)); have n8_ := Aside0.mk ((by rw [hg]; exact Nat.ne_of_gt (blk_lt (g := gb281) (o := .cells #[.string (⟨#[]⟩ : ByteArray), .string (⟨#[]⟩ : ByteArray), .int .i64 0, .bool false, .int .i64 0, .int .i64 0, .int .i64 0, .int .i64 0] 29 (0, 0)) bk) : gb302 ≠ gb281)); have n9_ := Aside0.mk ((by rw [hg]; exact Nat.ne_of_lt (blk_lt (g := gb290) (o := .cells #[.string t287, .string t288] 27 (0, 0)) bk) : gb290 ≠ gb302)); have n10_ := Aside0.mk ((by rw [hg]; exact Nat.ne_of_gt (blk_lt (g := gb290) (o := .cells #[.string t287, .string t288] 27 (0, 0)) bk) : gb302 ≠ gb290)); clear HO285 BK281 BK290 HB; have HO285 := n0_; have BK281 := n1_; have BK290 := n2_; have HB := n3_; have BK302 := n4_; have GW302 := n5_; have GE302 := n6_; have NB281_302 := n7_; have NB302_281 := n8_; have NB290_302 := n9_; have NB302_290 := n10_; clear n0_ n1_ n2_ n3_ n4_ n5_ n6_ n7_ n8_ n9_ n10_ hb hbox hg; refine hK.out _ _ ⟨(blk_cell BK290.out 0).trans rfl, (blk_cell BK290.out 1).trans rfl, HS2_, HS3_, HS4_, HS5_, HS6_, HS7_⟩ (fun hHeld => ?_); clear hK K; refine norm_ (a' := ?_) ?_ ?_; rotate_left
             ·show Act.put _ (some 7) _ = _
              simp only [Act.put, List.setIfInBounds_toArray, List.set_cons_zero, List.set_cons_succ, i64_w, i32_w]; rfl
             exact norm_ (by first | (simp only [putAll, Act.put, List.setIfInBounds_toArray, List.set_cons_zero, List.set_cons_succ]; done) | (simp only [putAll, Act.put, List.setIfInBounds_toArray, List.set_cons_zero, List.set_cons_succ]; rfl)) (hJ4_12_16_20_26 (gb302) _ ⟨hHeld, (ra HO285.out), bk, bk, bk, GW302.out, GE302.out, NB281_302.out, NB302_281.out, NB290_302.out, NB302_290.out, bwS⟩)
            skip
            rintro gb302 w32 ⟨hS_, h0_, h1_, h2_, h3_, h4_, h5_, h6_, h7_, h8_, h9_, h10_⟩; have n0_ : Aside0 (Kd.R Kd.string 9 w32 w.heap.size (fun _ => True) (.slice (some ad286) t282.length co24) t282) := ⟨h0_⟩
            have n1_ : Aside0 (w32.heap[gb281]? = some (.cells #[.string (⟨#[]⟩ : ByteArray), .string (⟨#[]⟩ : ByteArray), .int .i64 0, .bool false, .int .i64 0, .int .i64 0, .int .i64 0, .int .i64 0] 29 (0, 0))) := ⟨h1_⟩
            have n2_ : Aside0 (w32.heap[gb290]? = some (.cells #[.string t287, .string t288] 27 (0, 0))) := ⟨h2_⟩
            have n3_ : Aside0 (w32.heap[gb302]? = some (.cells #[.string (⟨#[]⟩ : ByteArray), .string (⟨#[]⟩ : ByteArray), .int .i64 0, .bool false, .int .i64 0, .int .i64 0, .int .i64 0, .int .i64 0] 29 (0, 0))) := ⟨h3_⟩
            have n4_ : Aside0 (w.heap.size ≤ gb302) := ⟨h4_⟩
            have n5_ : Aside0 (w.heap.size ≤ gb302) := ⟨h5_⟩
            have n6_ : Aside0 (gb281 ≠ gb302) := ⟨h6_⟩
            have n7_ : Aside0 (gb302 ≠ gb281) := ⟨h7_⟩
            have n8_ : Aside0 (gb290 ≠ gb302) := ⟨h8_⟩
            have n9_ : Aside0 (gb302 ≠ gb290) := ⟨h9_⟩
            have n10_ : Aside0 (Below w.heap.size w w32) := ⟨h10_⟩
            clear HO285 BK281 BK290 HB h0_ h1_ h2_ h3_ h4_ h5_ h6_ h7_ h8_ h9_ h10_; have HO285 := n0_; have BK281 := n1_; have BK290 := n2_; have BK302 := n3_; have GW302 := n4_; have GE302 := n5_; have NB281_302 := n6_; have NB302_281 := n7_; have NB290_302 := n8_; have NB302_290 := n9_; have HB := n10_; clear n0_ n1_ n2_ n3_ n4_ n5_ n6_ n7_ n8_ n9_ n10_; have hHeld : w32.cell? ⟨gb290, 0, none⟩ = some (.string t287) ∧ w32.cell? ⟨gb290, 1, none⟩ = some (.string t288) ∧ w32.cell? ⟨ad286.block, ad286.off + 1, none⟩ = some (.string (rdOf ByteArray.empty t282 1)) ∧ w32.cell? ⟨ad286.block, ad286.off + 2, none⟩ = some (.string (rdOf ByteArray.empty t282 2)) ∧ w32.cell? ⟨ad286.block, ad286.off + 3, none⟩ = some (.string (rdOf ByteArray.empty t282 3)) ∧ w32.cell? ⟨ad286.block, ad286.off + 4, none⟩ = some (.string (rdOf ByteArray.empty t282 4)) ∧ w32.cell? ⟨ad286.block, ad286.off + 5, none⟩ = some (.string (rdOf ByteArray.empty t282 5)) ∧ w32.cell? ⟨ad286.block, ad286.off + 6, none⟩ = some (.string (rdOf ByteArray.empty t282 6)) := hS_; refine norm_ (a' := ?_) ?_ ?_; rotate_left
            ·simp only [putAll, Act.put, List.setIfInBounds_toArray, List.set_cons_zero, List.set_cons_succ]; rfl
            refine one_ (i := 24) (N := some 47) (bitsL 28 100663295) rfl rfl (one_of HT_.out (by kernel_rfl)) (by decide) (fun K hK => ?_); refine goes_ Tryz.func27 (by kernel_rfl) rfl #[.string (rdOf ByteArray.empty t282 6)] (by rfl) rfl rfl am ?_; with_reducible refine (roster_figure.calls k (rdOf ByteArray.empty t282 6) t301 _ A16.out).mono ?_
            rintro e w' ⟨rfl, ⟨nd, rfl⟩⟩; refine ⟨_, rfl, ?_⟩; refine hK.out _ _ ⟨(blk_cell BK290.out 0).trans rfl, (blk_cell BK290.out 1).trans rfl, hHeld.2.2.1, hHeld.2.2.2.1, hHeld.2.2.2.2.1, hHeld.2.2.2.2.2.1, hHeld.2.2.2.2.2.2.1, hHeld.2.2.2.2.2.2.2⟩ (fun hHeld => ?_); clear hK K; refine norm_ (a' := ?_) ?_ ?_; rotate_left
            ·show Act.put _ (some 47) _ = _
             simp only [Act.put, List.setIfInBounds_toArray, List.set_cons_zero, List.set_cons_succ, i64_w, i32_w]; rfl
            refine pure_ (i := 25) (N := some 48) (v := ?_) (a' := ?_) (bitsL 28 134217727) rfl rfl (any_of HT_.out (by kernel_rfl)) (fun _ _ _ h => h) (Or.inl ⟨by rfl, ?_⟩) ?_ ?_; rotate_left
            ·intro w'; simp only [execOp, Act.eval, List.getElem_toArray, List.getElem_cons_succ, List.getElem_cons_zero, List.map_toArray, List.map_cons, List.map_nil, Array.getD_eq_getD_getElem?, List.getElem?_toArray, List.getElem?_cons_succ, List.getElem?_cons_zero, Option.getD_some]; rw [Sem.run_bind, member_build]; rfl
            rotate_left
            ·simp only [Act.put, List.setIfInBounds_toArray, List.set_cons_zero, List.set_cons_succ, i64_w, i32_w]; rfl
            exact norm_ (by first | (simp only [putAll, Act.put, List.setIfInBounds_toArray, List.set_cons_zero, List.set_cons_succ]; done) | (simp only [putAll, Act.put, List.setIfInBounds_toArray, List.set_cons_zero, List.set_cons_succ]; rfl)) (hJ4_12_16_20_24_26 (gb302) _ ⟨hHeld, (ra HO285.out), bk, bk, bk, GW302.out, GE302.out, NB281_302.out, NB302_281.out, NB290_302.out, NB302_290.out, bwS⟩)
           skip
           rintro _ w31 ⟨hS_, h0_, h1_, h2_, h3_⟩; have n0_ : Aside0 (Kd.R Kd.string 9 w31 w.heap.size (fun _ => True) (.slice (some ad286) t282.length co24) t282) := ⟨h0_⟩
           have n1_ : Aside0 (w31.heap[gb281]? = some (.cells #[.string (⟨#[]⟩ : ByteArray), .string (⟨#[]⟩ : ByteArray), .int .i64 0, .bool false, .int .i64 0, .int .i64 0, .int .i64 0, .int .i64 0] 29 (0, 0))) := ⟨h1_⟩
           have n2_ : Aside0 (w31.heap[gb290]? = some (.cells #[.string t287, .string t288] 27 (0, 0))) := ⟨h2_⟩
           have n3_ : Aside0 (Below w.heap.size w w31) := ⟨h3_⟩
           clear HO285 BK281 BK290 HB h0_ h1_ h2_ h3_; have HO285 := n0_; have BK281 := n1_; have BK290 := n2_; have HB := n3_; clear n0_ n1_ n2_ n3_; have hHeld : w31.cell? ⟨gb290, 0, none⟩ = some (.string t287) ∧ w31.cell? ⟨gb290, 1, none⟩ = some (.string t288) ∧ w31.cell? ⟨ad286.block, ad286.off + 1, none⟩ = some (.string (rdOf ByteArray.empty t282 1)) ∧ w31.cell? ⟨ad286.block, ad286.off + 2, none⟩ = some (.string (rdOf ByteArray.empty t282 2)) ∧ w31.cell? ⟨ad286.block, ad286.off + 3, none⟩ = some (.string (rdOf ByteArray.empty t282 3)) ∧ w31.cell? ⟨ad286.block, ad286.off + 4, none⟩ = some (.string (rdOf ByteArray.empty t282 4)) ∧ w31.cell? ⟨ad286.block, ad286.off + 5, none⟩ = some (.string (rdOf ByteArray.empty t282 5)) ∧ w31.cell? ⟨ad286.block, ad286.off + 6, none⟩ = some (.string (rdOf ByteArray.empty t282 6)) := hS_; refine norm_ (a' := ?_) ?_ ?_; rotate_left
           ·simp only [putAll, Act.put, List.setIfInBounds_toArray, List.set_cons_zero, List.set_cons_succ]; rfl
           refine one_ (i := 26) (N := some 7) (bitsL 28 134217727) rfl rfl (one_of HT_.out (by kernel_rfl)) (by decide) (fun K hK => ?_); refine box_step ?hg (N := 7) ?hd (cs := #[.string (⟨#[]⟩ : ByteArray), .string (⟨#[]⟩ : ByteArray), .int .i64 0, .bool false, .int .i64 0, .int .i64 0, .int .i64 0, .int .i64 0]) (t := 29) ?hr ?_; (case hd => rfl); (case hg => rfl); (case hr => first | (go_simp; done) | (go_simp; rfl))
           intro gb302 hg w32 hbox hb; have HS2_ := (hb.cell (World.block_lt_of_cell? _ _ (hHeld.2.2.1))).trans (hHeld.2.2.1); have HS3_ := (hb.cell (World.block_lt_of_cell? _ _ (hHeld.2.2.2.1))).trans (hHeld.2.2.2.1); have HS4_ := (hb.cell (World.block_lt_of_cell? _ _ (hHeld.2.2.2.2.1))).trans (hHeld.2.2.2.2.1); have HS5_ := (hb.cell (World.block_lt_of_cell? _ _ (hHeld.2.2.2.2.2.1))).trans (hHeld.2.2.2.2.2.1); have HS6_ := (hb.cell (World.block_lt_of_cell? _ _ (hHeld.2.2.2.2.2.2.1))).trans (hHeld.2.2.2.2.2.2.1); have HS7_ := (hb.cell (World.block_lt_of_cell? _ _ (hHeld.2.2.2.2.2.2.2))).trans (hHeld.2.2.2.2.2.2.2); have n0_ := Aside0.mk (Kd.R_below (ra HO285.out) hb); have n1_ := Aside0.mk (blk_below (g := gb281) (o := .cells #[.string (⟨#[]⟩ : ByteArray), .string (⟨#[]⟩ : ByteArray), .int .i64 0, .bool false, .int .i64 0, .int .i64 0, .int .i64 0, .int .i64 0] 29 (0, 0)) bk hb); have n2_ := Aside0.mk (blk_below (g := gb290) (o := .cells #[.string t287, .string t288] 27 (0, 0)) bk hb); have n3_ := Aside0.mk (below_step bwS hb); have n4_ := Aside0.mk (hbox); have n5_ := Aside0.mk ((by rw [hg]; exact (below_size bwS) : w.heap.size ≤ gb302)); have n6_ := Aside0.mk ((by rw [hg]; exact (below_size bwS) : w.heap.size ≤ gb302)); have n7_ := Aside0.mk ((by rw [hg]; exact Nat.ne_of_lt (blk_lt (g := gb281) (o := .cells #[.string (⟨#[]⟩ : ByteArray), .string (⟨#[]⟩ : ByteArray), .int .i64 0, .bool false, .int .i64 0, .int .i64 0, .int .i64 0, .int .i64 0] 29 (0, 0)) bk) : gb281 ≠ gb302)); have n8_ := Aside0.mk ((by rw [hg]; exact Nat.ne_of_gt (blk_lt (g := gb281) (o := .cells #[.string (⟨#[]⟩ : ByteArray), .string (⟨#[]⟩ : ByteArray), .int .i64 0, .bool false, .int .i64 0, .int .i64 0, .int .i64 0, .int .i64 0] 29 (0, 0)) bk) : gb302 ≠ gb281)); have n9_ := Aside0.mk ((by rw [hg]; exact Nat.ne_of_lt (blk_lt (g := gb290) (o := .cells #[.string t287, .string t288] 27 (0, 0)) bk) : gb290 ≠ gb302)); have n10_ := Aside0.mk ((by rw [hg]; exact Nat.ne_of_gt (blk_lt (g := gb290) (o := .cells #[.string t287, .string t288] 27 (0, 0)) bk) : gb302 ≠ gb290)); clear HO285 BK281 BK290 HB; have HO285 := n0_; have BK281 := n1_; have BK290 := n2_; have HB := n3_; have BK302 := n4_; have GW302 := n5_; have GE302 := n6_; have NB281_302 := n7_; have NB302_281 := n8_; have NB290_302 := n9_; have NB302_290 := n10_; clear n0_ n1_ n2_ n3_ n4_ n5_ n6_ n7_ n8_ n9_ n10_ hb hbox hg; refine hK.out _ _ ⟨(blk_cell BK290.out 0).trans rfl, (blk_cell BK290.out 1).trans rfl, HS2_, HS3_, HS4_, HS5_, HS6_, HS7_⟩ (fun hHeld => ?_); clear hK K; refine norm_ (a' := ?_) ?_ ?_; rotate_left
           ·show Act.put _ (some 7) _ = _
            simp only [Act.put, List.setIfInBounds_toArray, List.set_cons_zero, List.set_cons_succ, i64_w, i32_w]; rfl
           exact norm_ (by first | (simp only [putAll, Act.put, List.setIfInBounds_toArray, List.set_cons_zero, List.set_cons_succ]; done) | (simp only [putAll, Act.put, List.setIfInBounds_toArray, List.set_cons_zero, List.set_cons_succ]; rfl)) (hJ4_12_16_20_24_26 (gb302) _ ⟨hHeld, (ra HO285.out), bk, bk, bk, GW302.out, GE302.out, NB281_302.out, NB302_281.out, NB290_302.out, NB302_290.out, bwS⟩)
          rintro gb302 w32 ⟨hS_, h0_, h1_, h2_, h3_, h4_, h5_, h6_, h7_, h8_, h9_, h10_⟩; have n0_ : Aside0 (Kd.R Kd.string 9 w32 w.heap.size (fun _ => True) (.slice (some ad286) t282.length co24) t282) := ⟨h0_⟩
          have n1_ : Aside0 (w32.heap[gb281]? = some (.cells #[.string (⟨#[]⟩ : ByteArray), .string (⟨#[]⟩ : ByteArray), .int .i64 0, .bool false, .int .i64 0, .int .i64 0, .int .i64 0, .int .i64 0] 29 (0, 0))) := ⟨h1_⟩
          have n2_ : Aside0 (w32.heap[gb290]? = some (.cells #[.string t287, .string t288] 27 (0, 0))) := ⟨h2_⟩
          have n3_ : Aside0 (w32.heap[gb302]? = some (.cells #[.string (⟨#[]⟩ : ByteArray), .string (⟨#[]⟩ : ByteArray), .int .i64 0, .bool false, .int .i64 0, .int .i64 0, .int .i64 0, .int .i64 0] 29 (0, 0))) := ⟨h3_⟩
          have n4_ : Aside0 (w.heap.size ≤ gb302) := ⟨h4_⟩
          have n5_ : Aside0 (w.heap.size ≤ gb302) := ⟨h5_⟩
          have n6_ : Aside0 (gb281 ≠ gb302) := ⟨h6_⟩
          have n7_ : Aside0 (gb302 ≠ gb281) := ⟨h7_⟩
          have n8_ : Aside0 (gb290 ≠ gb302) := ⟨h8_⟩
          have n9_ : Aside0 (gb302 ≠ gb290) := ⟨h9_⟩
          have n10_ : Aside0 (Below w.heap.size w w32) := ⟨h10_⟩
          clear HO285 BK281 BK290 HB h0_ h1_ h2_ h3_ h4_ h5_ h6_ h7_ h8_ h9_ h10_; have HO285 := n0_; have BK281 := n1_; have BK290 := n2_; have BK302 := n3_; have GW302 := n4_; have GE302 := n5_; have NB281_302 := n6_; have NB302_281 := n7_; have NB290_302 := n8_; have NB302_290 := n9_; have HB := n10_; clear n0_ n1_ n2_ n3_ n4_ n5_ n6_ n7_ n8_ n9_ n10_; have hHeld : w32.cell? ⟨gb290, 0, none⟩ = some (.string t287) ∧ w32.cell? ⟨gb290, 1, none⟩ = some (.string t288) ∧ w32.cell? ⟨ad286.block, ad286.off + 1, none⟩ = some (.string (rdOf ByteArray.empty t282 1)) ∧ w32.cell? ⟨ad286.block, ad286.off + 2, none⟩ = some (.string (rdOf ByteArray.empty t282 2)) ∧ w32.cell? ⟨ad286.block, ad286.off + 3, none⟩ = some (.string (rdOf ByteArray.empty t282 3)) ∧ w32.cell? ⟨ad286.block, ad286.off + 4, none⟩ = some (.string (rdOf ByteArray.empty t282 4)) ∧ w32.cell? ⟨ad286.block, ad286.off + 5, none⟩ = some (.string (rdOf ByteArray.empty t282 5)) ∧ w32.cell? ⟨ad286.block, ad286.off + 6, none⟩ = some (.string (rdOf ByteArray.empty t282 6)) := hS_; refine norm_ (a' := ?_) ?_ ?_; rotate_left
          ·simp only [putAll, Act.put, List.setIfInBounds_toArray, List.set_cons_zero, List.set_cons_succ]; rfl
          refine one_ (i := 27) (N := none) (bitsL 28 268435455) rfl rfl (one_of HT_.out (by kernel_rfl)) (by decide) (fun K hK => ?_); have hs33 : w32.cell? ⟨gb302, 0, none⟩ = some (.string (⟨#[]⟩ : ByteArray)) := (blk_cell BK302.out 0).trans rfl; have hfs33 := blk_frozen BK302.out 0; have hns33_0 := NB281_302.out; have hns33_1 := NB290_302.out; have hms33_0 := NB302_281.out; have hms33_1 := NB302_290.out; have hs34 : w32.cell? ⟨gb302, 1, none⟩ = some (.string (⟨#[]⟩ : ByteArray)) := (blk_cell BK302.out 1).trans rfl; have hfs34 := blk_frozen BK302.out 1; have hns34_0 := NB281_302.out; have hns34_1 := NB290_302.out; have hms34_0 := NB302_281.out; have hms34_1 := NB302_290.out; have hs35 : w32.cell? ⟨gb302, 2, none⟩ = some (.int .i64 0) := (blk_cell BK302.out 2).trans rfl; have hfs35 := blk_frozen BK302.out 2; have hns35_0 := NB281_302.out; have hns35_1 := NB290_302.out; have hms35_0 := NB302_281.out; have hms35_1 := NB302_290.out; have hs36 : w32.cell? ⟨gb302, 3, none⟩ = some (.bool false) := (blk_cell BK302.out 3).trans rfl; have hfs36 := blk_frozen BK302.out 3; have hns36_0 := NB281_302.out; have hns36_1 := NB290_302.out; have hms36_0 := NB302_281.out; have hms36_1 := NB302_290.out; have hs37 : w32.cell? ⟨gb302, 4, none⟩ = some (.int .i64 0) := (blk_cell BK302.out 4).trans rfl; have hfs37 := blk_frozen BK302.out 4; have hns37_0 := NB281_302.out; have hns37_1 := NB290_302.out; have hms37_0 := NB302_281.out; have hms37_1 := NB302_290.out; have hs38 : w32.cell? ⟨gb302, 5, none⟩ = some (.int .i64 0) := (blk_cell BK302.out 5).trans rfl; have hfs38 := blk_frozen BK302.out 5; have hns38_0 := NB281_302.out; have hns38_1 := NB290_302.out; have hms38_0 := NB302_281.out; have hms38_1 := NB302_290.out; have hs39 : w32.cell? ⟨gb302, 6, none⟩ = some (.int .i64 0) := (blk_cell BK302.out 6).trans rfl; have hfs39 := blk_frozen BK302.out 6; have hns39_0 := NB281_302.out; have hns39_1 := NB290_302.out; have hms39_0 := NB302_281.out; have hms39_1 := NB302_290.out; have hs40 : w32.cell? ⟨gb302, 7, none⟩ = some (.int .i64 0) := (blk_cell BK302.out 7).trans rfl; have hfs40 := blk_frozen BK302.out 7; have hns40_0 := NB281_302.out; have hns40_1 := NB290_302.out; have hms40_0 := NB302_281.out; have hms40_1 := NB302_290.out; refine skip_ (w1 := ?_) (by rfl) rfl ?_ ?_; rotate_left
          ·simp only [execOp, Act.eval, List.getElem_toArray, List.getElem_cons_succ, List.getElem_cons_zero, List.map_toArray, List.map_cons, List.map_nil, Array.getD_eq_getD_getElem?, List.getElem?_toArray, List.getElem?_cons_succ, List.getElem?_cons_zero, Option.getD_some]; rw [Sem.run_bind, member_store _ _ _ _ _ _ _ _ _ _ _ _ _ _ _ _ _ _ BK302.out]; rfl
          have hA_ := Kd.own_blk (Kd.R_ne HO285.out BK302.out (by decide)); refine hK.out _ _ ⟨member_far hHeld.1 NB290_302.out, member_far hHeld.2.1 NB290_302.out, member_far hHeld.2.2.1 hA_, member_far hHeld.2.2.2.1 hA_, member_far hHeld.2.2.2.2.1 hA_, member_far hHeld.2.2.2.2.2.1 hA_, member_far hHeld.2.2.2.2.2.2.1 hA_, member_far hHeld.2.2.2.2.2.2.2 hA_⟩ (fun hHeld => ?_); clear hK K; refine done_ (done_of HT_.out (by kernel_rfl)) ?_
          rename_i Q1 K1 hK1 hh1 hh2
          refine hK1 _ _ (roster_Read.tail _ ⟨_, _, _, _, _, rfl⟩ k a0 t287 t288 t289 t292 bq_ t295 t297 t299 t301 r1 r2 r3 r4 r5 r6 r7 r8 r9 w _ gb302 gb281 hG (tail_below HB GE302) (member_blk _ _ _ _ _ _ _ _ BK302.out) (member_other BK281.out NB281_302.out) GE281.out HR.out)
        rw [if_neg c15] at H; exact absurd H (by simp)
       rw [if_neg c13] at H; exact absurd H (by simp)
      rw [if_neg c11] at H; exact absurd H (by simp)
     rw [if_neg c9] at H; exact absurd H (by simp)
    rw [if_neg c8] at H; exact absurd H (by simp)
   rw [if_neg c6] at H; exact absurd H (by simp)
  rw [if_neg c4] at H; exact absurd H (by simp)
 rw [if_neg c3] at H; have c3b0 := beq_eq_false_iff_ne.mpr c3; have c3b1 := bne_iff_ne.mpr c3; simp only [Option.some.injEq, Prod.mk.injEq] at H; obtain ⟨rfl, rfl, rfl, rfl, rfl, rfl, rfl, rfl, rfl⟩ := H
 go_enter Tryz.func6, Tryz.ntmps6
 go_wp2_with (first | ((with_reducible refine gate_dst (N := 2) rfl ?_); refine box_event ?hg (N := 2) ?hd (cs := #[.string (⟨#[]⟩ : ByteArray), .string (⟨#[]⟩ : ByteArray), .int .i64 0, .bool false, .int .i64 0, .int .i64 0, .int .i64 0, .int .i64 0]) (t := 29) ?hr ?_; (case hd => rfl); (case hg => rfl); (case hr => first | (go_simp; done) | (go_simp; rfl)); intro gb281 hg w120 hbox hb; have n0_ := Aside0.mk (below_step bw hb); have n1_ := Aside0.mk (hbox); have n2_ := Aside0.mk ((by rw [hg]; exact (below_size bw) : w.heap.size ≤ gb281)); have n3_ := Aside0.mk ((by rw [hg]; exact (below_size bw) : w.heap.size ≤ gb281)); clear HB; have HB := n0_; have BK281 := n1_; have GW281 := n2_; have GE281 := n3_; clear n0_ n1_ n2_ n3_; clear hb hbox hg) | ((with_reducible refine gate_callee (f := 25) rfl ?_); refine goesL_ (some 10) rfl rfl Tryz.func25 (by kernel_rfl) rfl #[.string a0, .int .i64 8] rfl am ?_; (with_reducible refine (nets_Pick.calls k a0 8 t282 t283 _ A2.out).mono ?_); rintro e w121 ⟨v284, rfl, ho0, hb⟩; refine ⟨_, rfl, ?_⟩; have n0_ := Aside0.mk (Kd.R_lower ho0 (below_size bwS)); have n1_ := Aside0.mk (blk_below (g := gb281) (o := .cells #[.string (⟨#[]⟩ : ByteArray), .string (⟨#[]⟩ : ByteArray), .int .i64 0, .bool false, .int .i64 0, .int .i64 0, .int .i64 0, .int .i64 0] 29 (0, 0)) bk hb); have n2_ := Aside0.mk (below_step bwS hb); clear BK281; clear HB; have HO285 := n0_; have BK281 := n1_; have HB := n2_; clear n0_ n1_ n2_; (try clear hb); (try clear hb2); (try clear hk); (try clear hi); (try clear ho0); have hcz122_0 : w121.cell? ⟨gb281, 0, none⟩ = some (.string (⟨#[]⟩ : ByteArray)) := (blk_cell BK281.out 0).trans rfl; have hcz122_1 : w121.cell? ⟨gb281, 1, none⟩ = some (.string (⟨#[]⟩ : ByteArray)) := (blk_cell BK281.out 1).trans rfl; have hcz122_2 : w121.cell? ⟨gb281, 2, none⟩ = some (.int .i64 0) := (blk_cell BK281.out 2).trans rfl; have hcz122_3 : w121.cell? ⟨gb281, 3, none⟩ = some (.bool false) := (blk_cell BK281.out 3).trans rfl; have hcz122_4 : w121.cell? ⟨gb281, 4, none⟩ = some (.int .i64 0) := (blk_cell BK281.out 4).trans rfl; have hcz122_5 : w121.cell? ⟨gb281, 5, none⟩ = some (.int .i64 0) := (blk_cell BK281.out 5).trans rfl; have hcz122_6 : w121.cell? ⟨gb281, 6, none⟩ = some (.int .i64 0) := (blk_cell BK281.out 6).trans rfl; have hcz122_7 : w121.cell? ⟨gb281, 7, none⟩ = some (.int .i64 0) := (blk_cell BK281.out 7).trans rfl; have hfz122_0 := blk_frozen BK281.out 0; have hfz122_1 := blk_frozen BK281.out 1; have hfz122_2 := blk_frozen BK281.out 2; have hfz122_3 := blk_frozen BK281.out 3; have hfz122_4 := blk_frozen BK281.out 4; have hfz122_5 := blk_frozen BK281.out 5; have hfz122_6 := blk_frozen BK281.out 6; have hfz122_7 := blk_frozen BK281.out 7))
 refine bodyPost_ret (results_ct rfl _ _ gb281 29 #[.string (⟨#[]⟩ : ByteArray), .string (⟨#[]⟩ : ByteArray), .int .i64 0, .bool false, .int .i64 0, .int .i64 0, .int .i64 0, .int .i64 0] (0, 0) _ rfl (by (with_reducible repeat (first | refine blk_drewN ?_ _ | refine blk_drew ?_ | refine blk_alloc ?_ _)); refine blk_put (cs := #[.string (⟨#[]⟩ : ByteArray), .string (⟨#[]⟩ : ByteArray), .int .i64 0, .bool false, .int .i64 0, .int .i64 0, .int .i64 0, .int .i64 0]) ?_ 7 _ rfl; (with_reducible repeat (first | refine blk_drewN ?_ _ | refine blk_drew ?_ | refine blk_alloc ?_ _)); refine blk_put (cs := #[.string (⟨#[]⟩ : ByteArray), .string (⟨#[]⟩ : ByteArray), .int .i64 0, .bool false, .int .i64 0, .int .i64 0, .int .i64 0, .int .i64 0]) ?_ 6 _ rfl; (with_reducible repeat (first | refine blk_drewN ?_ _ | refine blk_drew ?_ | refine blk_alloc ?_ _)); refine blk_put (cs := #[.string (⟨#[]⟩ : ByteArray), .string (⟨#[]⟩ : ByteArray), .int .i64 0, .bool false, .int .i64 0, .int .i64 0, .int .i64 0, .int .i64 0]) ?_ 5 _ rfl; (with_reducible repeat (first | refine blk_drewN ?_ _ | refine blk_drew ?_ | refine blk_alloc ?_ _)); refine blk_put (cs := #[.string (⟨#[]⟩ : ByteArray), .string (⟨#[]⟩ : ByteArray), .int .i64 0, .bool false, .int .i64 0, .int .i64 0, .int .i64 0, .int .i64 0]) ?_ 4 _ rfl; (with_reducible repeat (first | refine blk_drewN ?_ _ | refine blk_drew ?_ | refine blk_alloc ?_ _)); refine blk_put (cs := #[.string (⟨#[]⟩ : ByteArray), .string (⟨#[]⟩ : ByteArray), .int .i64 0, .bool false, .int .i64 0, .int .i64 0, .int .i64 0, .int .i64 0]) ?_ 3 _ rfl; (with_reducible repeat (first | refine blk_drewN ?_ _ | refine blk_drew ?_ | refine blk_alloc ?_ _)); refine blk_put (cs := #[.string (⟨#[]⟩ : ByteArray), .string (⟨#[]⟩ : ByteArray), .int .i64 0, .bool false, .int .i64 0, .int .i64 0, .int .i64 0, .int .i64 0]) ?_ 2 _ rfl; (with_reducible repeat (first | refine blk_drewN ?_ _ | refine blk_drew ?_ | refine blk_alloc ?_ _)); refine blk_put (cs := #[.string (⟨#[]⟩ : ByteArray), .string (⟨#[]⟩ : ByteArray), .int .i64 0, .bool false, .int .i64 0, .int .i64 0, .int .i64 0, .int .i64 0]) ?_ 1 _ rfl; (with_reducible repeat (first | refine blk_drewN ?_ _ | refine blk_drew ?_ | refine blk_alloc ?_ _)); exact blk_put (cs := #[.string (⟨#[]⟩ : ByteArray), .string (⟨#[]⟩ : ByteArray), .int .i64 0, .bool false, .int .i64 0, .int .i64 0, .int .i64 0, .int .i64 0]) bk 0 _ rfl) Tryz.underlying29 rfl (by kernel_rfl)) rfl ?_; exact ⟨ew, bwS⟩

end Go.Proofs.YtnnlhpmkfijppaaGreatDoor.Fn
namespace Go.Proofs.YtnnlhpmkfijppaaGreatDoor.Fn
open Go.RowKit Go.Proofs.YtnnlhpmkfijppaaGreatDoorW.PrintWords Go.Proofs.YtnnlhpmkfijppaaGreatDoorW.PrintLast Go.Proofs.YtnnlhpmkfijppaaGreatDoorW.PrintMore
attribute [local go_sem] max2_int min2_int max_two min_two max_three min_three max_four min_four
set_option linter.unusedVariables false
set_option linter.unusedSimpArgs false
attribute [local go_sem high] eqA29
def bulletinlaw33_works.f (k : Nat)  : Option (Bool) := (roster_New.f (⟨#[97]⟩ : ByteArray) (⟨#[98]⟩ : ByteArray) 1 7 9).bind fun bt310 => ((roster_Member_Bounced.f k bt310.1 bt310.2.1 bt310.2.2.1 bt310.2.2.2.1 bt310.2.2.2.2.1 bt310.2.2.2.2.2.1 bt310.2.2.2.2.2.2.1 bt310.2.2.2.2.2.2.2 5 2).bind fun bt319 => ((roster_Member_Bounced.f k bt319.1 bt319.2.1 bt319.2.2.1 bt319.2.2.2.1 bt319.2.2.2.2.1 bt319.2.2.2.2.2.1 bt319.2.2.2.2.2.2.1 bt319.2.2.2.2.2.2.2 5 2).bind fun bt327 => ((roster_Member_Bounced.f k bt327.1 bt327.2.1 bt327.2.2.1 bt327.2.2.2.1 bt327.2.2.2.2.1 bt327.2.2.2.2.2.1 bt327.2.2.2.2.2.2.1 bt327.2.2.2.2.2.2.2 6 2).bind fun bt336 => ((roster_Member_Row.f k bt336.1 bt336.2.1 bt336.2.2.1 bt336.2.2.2.1 bt336.2.2.2.2.1 bt336.2.2.2.2.2.1 bt336.2.2.2.2.2.2.1 bt336.2.2.2.2.2.2.2).bind fun t345 => ((roster_Read.f k t345).bind fun bt346 => ((roster_Member_Gets.f bt310.1 bt310.2.1 bt310.2.2.1 bt310.2.2.2.1 bt310.2.2.2.2.1 bt310.2.2.2.2.2.1 bt310.2.2.2.2.2.2.1 bt310.2.2.2.2.2.2.2 1).bind fun t356 => (if t356 = true then ((roster_Member_Gets.f bt310.1 bt310.2.1 bt310.2.2.1 bt310.2.2.2.1 bt310.2.2.2.2.1 bt310.2.2.2.2.2.1 bt310.2.2.2.2.2.2.1 bt310.2.2.2.2.2.2.2 2).bind fun t357 => (if t357 = true then (some false) else (if bt327.2.2.2.2.1 = 1 then (if bt327.2.2.2.1 = true then (some false) else (if bt336.2.2.2.2.1 = 2 then (if bt336.2.2.2.1 = true then (if bt346.2.2.2.2.2.2.2.2 = 0 then (some ((bt346.1.toList == bt336.1.toList && (bt346.2.1.toList == bt336.2.1.toList)) && (bt346.2.2.1 == bt336.2.2.1 && (bt346.2.2.2.1 == bt336.2.2.2.1 && (bt346.2.2.2.2.1 == bt336.2.2.2.2.1 && (bt346.2.2.2.2.2.1 == bt336.2.2.2.2.2.1 && (bt346.2.2.2.2.2.2.1 == bt336.2.2.2.2.2.2.1 && (bt346.2.2.2.2.2.2.2.1 == bt336.2.2.2.2.2.2.2)))))))) else (some false)) else (some false)) else (some false))) else (some false)))) else (some false))))))))
theorem bulletinlaw33_works.mono : ∀ k, LeO (bulletinlaw33_works.f k ) (bulletinlaw33_works.f (k + 1) ) := by
 intro  k; unfold bulletinlaw33_works.f
 repeat' first
   | (with_reducible exact roster_Member_Bounced.mono _ _ _ _ _ _ _ _ _ _ _)
   | (with_reducible exact roster_Member_Row.mono _ _ _ _ _ _ _ _ _)
   | (with_reducible exact roster_Read.mono _ _)
   | (with_reducible exact LeO.refl _)
   | (with_reducible exact LeO.none _)
   | (with_reducible refine LeO.ite ?_ ?_)
   | (with_reducible refine LeO.bind ?_ (fun _ => ?_))
   | exact roster_Member_Bounced.mono _ _ _ _ _ _ _ _ _ _ _
   | exact roster_Member_Row.mono _ _ _ _ _ _ _ _ _
   | exact roster_Read.mono _ _
   | exact LeO.none _
   | refine LeO.ite ?_ ?_
   | refine LeO.bind ?_ (fun _ => ?_)
set_option maxHeartbeats 8000000 in
set_option maxRecDepth 100000 in
theorem bulletinlaw33_works.callsT (k : Nat)  (r : Bool) (w : World) (hG : GlobT w) (h : bulletinlaw33_works.f k  = some r) (hT : r = true) :
  Calls Tryz.prog 5 #[] w fun e w' => e = .returned (.bool r) ∧ Below w.heap.size w w' := by
 have HT := Aside0.mk hT; clear hT; have hu27 := Tryz.underlying27; have hu29 := Tryz.underlying29; have HB := Aside0.mk (Below.refl w.heap.size w); have H : ((roster_New.f (⟨#[97]⟩ : ByteArray) (⟨#[98]⟩ : ByteArray) 1 7 9).bind fun bt310 => ((roster_Member_Bounced.f k bt310.1 bt310.2.1 bt310.2.2.1 bt310.2.2.2.1 bt310.2.2.2.2.1 bt310.2.2.2.2.2.1 bt310.2.2.2.2.2.2.1 bt310.2.2.2.2.2.2.2 5 2).bind fun bt319 => ((roster_Member_Bounced.f k bt319.1 bt319.2.1 bt319.2.2.1 bt319.2.2.2.1 bt319.2.2.2.2.1 bt319.2.2.2.2.2.1 bt319.2.2.2.2.2.2.1 bt319.2.2.2.2.2.2.2 5 2).bind fun bt327 => ((roster_Member_Bounced.f k bt327.1 bt327.2.1 bt327.2.2.1 bt327.2.2.2.1 bt327.2.2.2.2.1 bt327.2.2.2.2.2.1 bt327.2.2.2.2.2.2.1 bt327.2.2.2.2.2.2.2 6 2).bind fun bt336 => ((roster_Member_Row.f k bt336.1 bt336.2.1 bt336.2.2.1 bt336.2.2.2.1 bt336.2.2.2.2.1 bt336.2.2.2.2.2.1 bt336.2.2.2.2.2.2.1 bt336.2.2.2.2.2.2.2).bind fun t345 => ((roster_Read.f k t345).bind fun bt346 => ((roster_Member_Gets.f bt310.1 bt310.2.1 bt310.2.2.1 bt310.2.2.2.1 bt310.2.2.2.2.1 bt310.2.2.2.2.2.1 bt310.2.2.2.2.2.2.1 bt310.2.2.2.2.2.2.2 1).bind fun t356 => (if t356 = true then ((roster_Member_Gets.f bt310.1 bt310.2.1 bt310.2.2.1 bt310.2.2.2.1 bt310.2.2.2.2.1 bt310.2.2.2.2.2.1 bt310.2.2.2.2.2.2.1 bt310.2.2.2.2.2.2.2 2).bind fun t357 => (if t357 = true then (some false) else (if bt327.2.2.2.2.1 = 1 then (if bt327.2.2.2.1 = true then (some false) else (if bt336.2.2.2.2.1 = 2 then (if bt336.2.2.2.1 = true then (if bt346.2.2.2.2.2.2.2.2 = 0 then (some ((bt346.1.toList == bt336.1.toList && (bt346.2.1.toList == bt336.2.1.toList)) && (bt346.2.2.1 == bt336.2.2.1 && (bt346.2.2.2.1 == bt336.2.2.2.1 && (bt346.2.2.2.2.1 == bt336.2.2.2.2.1 && (bt346.2.2.2.2.2.1 == bt336.2.2.2.2.2.1 && (bt346.2.2.2.2.2.2.1 == bt336.2.2.2.2.2.2.1 && (bt346.2.2.2.2.2.2.2.1 == bt336.2.2.2.2.2.2.2)))))))) else (some false)) else (some false)) else (some false))) else (some false)))) else (some false))))))))) = some r := h; clear h; replace H := Option.bind_eq_some_iff.mp H; obtain ⟨⟨t310, t311, t312, t313, t314, t315, t316, t317⟩, A10, H⟩ := H; replace H : ((roster_Member_Bounced.f k t310 t311 t312 t313 t314 t315 t316 t317 5 2).bind fun bt319 => ((roster_Member_Bounced.f k bt319.1 bt319.2.1 bt319.2.2.1 bt319.2.2.2.1 bt319.2.2.2.2.1 bt319.2.2.2.2.2.1 bt319.2.2.2.2.2.2.1 bt319.2.2.2.2.2.2.2 5 2).bind fun bt327 => ((roster_Member_Bounced.f k bt327.1 bt327.2.1 bt327.2.2.1 bt327.2.2.2.1 bt327.2.2.2.2.1 bt327.2.2.2.2.2.1 bt327.2.2.2.2.2.2.1 bt327.2.2.2.2.2.2.2 6 2).bind fun bt336 => ((roster_Member_Row.f k bt336.1 bt336.2.1 bt336.2.2.1 bt336.2.2.2.1 bt336.2.2.2.2.1 bt336.2.2.2.2.2.1 bt336.2.2.2.2.2.2.1 bt336.2.2.2.2.2.2.2).bind fun t345 => ((roster_Read.f k t345).bind fun bt346 => ((roster_Member_Gets.f t310 t311 t312 t313 t314 t315 t316 t317 1).bind fun t356 => (if t356 = true then ((roster_Member_Gets.f t310 t311 t312 t313 t314 t315 t316 t317 2).bind fun t357 => (if t357 = true then (some false) else (if bt327.2.2.2.2.1 = 1 then (if bt327.2.2.2.1 = true then (some false) else (if bt336.2.2.2.2.1 = 2 then (if bt336.2.2.2.1 = true then (if bt346.2.2.2.2.2.2.2.2 = 0 then (some ((bt346.1.toList == bt336.1.toList && (bt346.2.1.toList == bt336.2.1.toList)) && (bt346.2.2.1 == bt336.2.2.1 && (bt346.2.2.2.1 == bt336.2.2.2.1 && (bt346.2.2.2.2.1 == bt336.2.2.2.2.1 && (bt346.2.2.2.2.2.1 == bt336.2.2.2.2.2.1 && (bt346.2.2.2.2.2.2.1 == bt336.2.2.2.2.2.2.1 && (bt346.2.2.2.2.2.2.2.1 == bt336.2.2.2.2.2.2.2)))))))) else (some false)) else (some false)) else (some false))) else (some false)))) else (some false)))))))) = some r := H; have A1 := Aside0.mk A10; clear A10; replace H := Option.bind_eq_some_iff.mp H; obtain ⟨⟨t319, t320, t321, t322, t323, t324, t325, t326⟩, A20, H⟩ := H; replace H : ((roster_Member_Bounced.f k t319 t320 t321 t322 t323 t324 t325 t326 5 2).bind fun bt327 => ((roster_Member_Bounced.f k bt327.1 bt327.2.1 bt327.2.2.1 bt327.2.2.2.1 bt327.2.2.2.2.1 bt327.2.2.2.2.2.1 bt327.2.2.2.2.2.2.1 bt327.2.2.2.2.2.2.2 6 2).bind fun bt336 => ((roster_Member_Row.f k bt336.1 bt336.2.1 bt336.2.2.1 bt336.2.2.2.1 bt336.2.2.2.2.1 bt336.2.2.2.2.2.1 bt336.2.2.2.2.2.2.1 bt336.2.2.2.2.2.2.2).bind fun t345 => ((roster_Read.f k t345).bind fun bt346 => ((roster_Member_Gets.f t310 t311 t312 t313 t314 t315 t316 t317 1).bind fun t356 => (if t356 = true then ((roster_Member_Gets.f t310 t311 t312 t313 t314 t315 t316 t317 2).bind fun t357 => (if t357 = true then (some false) else (if bt327.2.2.2.2.1 = 1 then (if bt327.2.2.2.1 = true then (some false) else (if bt336.2.2.2.2.1 = 2 then (if bt336.2.2.2.1 = true then (if bt346.2.2.2.2.2.2.2.2 = 0 then (some ((bt346.1.toList == bt336.1.toList && (bt346.2.1.toList == bt336.2.1.toList)) && (bt346.2.2.1 == bt336.2.2.1 && (bt346.2.2.2.1 == bt336.2.2.2.1 && (bt346.2.2.2.2.1 == bt336.2.2.2.2.1 && (bt346.2.2.2.2.2.1 == bt336.2.2.2.2.2.1 && (bt346.2.2.2.2.2.2.1 == bt336.2.2.2.2.2.2.1 && (bt346.2.2.2.2.2.2.2.1 == bt336.2.2.2.2.2.2.2)))))))) else (some false)) else (some false)) else (some false))) else (some false)))) else (some false))))))) = some r := H; have A2 := Aside0.mk A20; clear A20; replace H := Option.bind_eq_some_iff.mp H; obtain ⟨⟨t327, t328, t329, t330, t331, t332, t333, t334⟩, A30, H⟩ := H; replace H : ((roster_Member_Bounced.f k t327 t328 t329 t330 t331 t332 t333 t334 6 2).bind fun bt336 => ((roster_Member_Row.f k bt336.1 bt336.2.1 bt336.2.2.1 bt336.2.2.2.1 bt336.2.2.2.2.1 bt336.2.2.2.2.2.1 bt336.2.2.2.2.2.2.1 bt336.2.2.2.2.2.2.2).bind fun t345 => ((roster_Read.f k t345).bind fun bt346 => ((roster_Member_Gets.f t310 t311 t312 t313 t314 t315 t316 t317 1).bind fun t356 => (if t356 = true then ((roster_Member_Gets.f t310 t311 t312 t313 t314 t315 t316 t317 2).bind fun t357 => (if t357 = true then (some false) else (if t331 = 1 then (if t330 = true then (some false) else (if bt336.2.2.2.2.1 = 2 then (if bt336.2.2.2.1 = true then (if bt346.2.2.2.2.2.2.2.2 = 0 then (some ((bt346.1.toList == bt336.1.toList && (bt346.2.1.toList == bt336.2.1.toList)) && (bt346.2.2.1 == bt336.2.2.1 && (bt346.2.2.2.1 == bt336.2.2.2.1 && (bt346.2.2.2.2.1 == bt336.2.2.2.2.1 && (bt346.2.2.2.2.2.1 == bt336.2.2.2.2.2.1 && (bt346.2.2.2.2.2.2.1 == bt336.2.2.2.2.2.2.1 && (bt346.2.2.2.2.2.2.2.1 == bt336.2.2.2.2.2.2.2)))))))) else (some false)) else (some false)) else (some false))) else (some false)))) else (some false)))))) = some r := H; have A3 := Aside0.mk A30; clear A30; replace H := Option.bind_eq_some_iff.mp H; obtain ⟨⟨t336, t337, t338, t339, t340, t341, t342, t343⟩, A40, H⟩ := H; replace H : ((roster_Member_Row.f k t336 t337 t338 t339 t340 t341 t342 t343).bind fun t345 => ((roster_Read.f k t345).bind fun bt346 => ((roster_Member_Gets.f t310 t311 t312 t313 t314 t315 t316 t317 1).bind fun t356 => (if t356 = true then ((roster_Member_Gets.f t310 t311 t312 t313 t314 t315 t316 t317 2).bind fun t357 => (if t357 = true then (some false) else (if t331 = 1 then (if t330 = true then (some false) else (if t340 = 2 then (if t339 = true then (if bt346.2.2.2.2.2.2.2.2 = 0 then (some ((bt346.1.toList == t336.toList && (bt346.2.1.toList == t337.toList)) && (bt346.2.2.1 == t338 && (bt346.2.2.2.1 == t339 && (bt346.2.2.2.2.1 == t340 && (bt346.2.2.2.2.2.1 == t341 && (bt346.2.2.2.2.2.2.1 == t342 && (bt346.2.2.2.2.2.2.2.1 == t343)))))))) else (some false)) else (some false)) else (some false))) else (some false)))) else (some false))))) = some r := H; have A4 := Aside0.mk A40; clear A40; replace H := Option.bind_eq_some_iff.mp H; obtain ⟨t345, A50, H⟩ := H; have A5 := Aside0.mk A50; clear A50; replace H := Option.bind_eq_some_iff.mp H; obtain ⟨⟨t346, t347, t348, t349, t350, t351, t352, t353, t354⟩, A60, H⟩ := H; replace H : ((roster_Member_Gets.f t310 t311 t312 t313 t314 t315 t316 t317 1).bind fun t356 => (if t356 = true then ((roster_Member_Gets.f t310 t311 t312 t313 t314 t315 t316 t317 2).bind fun t357 => (if t357 = true then (some false) else (if t331 = 1 then (if t330 = true then (some false) else (if t340 = 2 then (if t339 = true then (if t354 = 0 then (some ((t346.toList == t336.toList && (t347.toList == t337.toList)) && (t348 == t338 && (t349 == t339 && (t350 == t340 && (t351 == t341 && (t352 == t342 && (t353 == t343)))))))) else (some false)) else (some false)) else (some false))) else (some false)))) else (some false))) = some r := H; have A6 := Aside0.mk A60; clear A60; replace H := Option.bind_eq_some_iff.mp H; obtain ⟨t356, A70, H⟩ := H; have A7 := Aside0.mk A70; clear A70
 by_cases c8 : t356 = true
 ·subst c8; rw [if_pos rfl] at H; replace H := Option.bind_eq_some_iff.mp H; obtain ⟨t357, A90, H⟩ := H; have A9 := Aside0.mk A90; clear A90
  by_cases c10 : t357 = true
  ·subst c10; rw [if_pos rfl] at H; obtain rfl := Option.some.inj H; exact absurd HT.out (by decide)
  replace c10 := Bool.eq_false_iff.mpr c10; subst c10; rw [if_neg nft] at H
  by_cases c35 : t331 = 1
  ·rw [if_pos c35] at H; have c35b0 := beq_iff_eq.mpr c35; have c35b1 := bne_eq_false_iff_eq.mpr c35; clear c35
   by_cases c36 : t330 = true
   ·subst c36; rw [if_pos rfl] at H; obtain rfl := Option.some.inj H; exact absurd HT.out (by decide)
   replace c36 := Bool.eq_false_iff.mpr c36; subst c36; rw [if_neg nft] at H
   by_cases c62 : t340 = 2
   ·rw [if_pos c62] at H; have c62b0 := beq_iff_eq.mpr c62; have c62b1 := bne_eq_false_iff_eq.mpr c62; clear c62
    by_cases c63 : t339 = true
    ·subst c63; rw [if_pos rfl] at H
     by_cases c64 : t354 = 0
     ·rw [if_pos c64] at H; have c64b0 := beq_iff_eq.mpr c64; have c64b1 := bne_eq_false_iff_eq.mpr c64; clear c64; obtain rfl := Option.some.inj H
      go_enter Tryz.func5, Tryz.ntmps5
      go_wp2_with (first | ((with_reducible refine gate_callee (f := 19) rfl ?_); refine goesL_ (some 7) rfl rfl Tryz.func19 (by kernel_rfl) rfl #[.agg #[.string (⟨#[97]⟩ : ByteArray), .string (⟨#[98]⟩ : ByteArray)], .int .i64 1, .int .i64 7, .int .i64 9] rfl am ?_; (with_reducible refine (roster_New.calls (⟨#[97]⟩ : ByteArray) (⟨#[98]⟩ : ByteArray) 1 7 9 t310 t311 t312 t313 t314 t315 t316 t317 _ A1.out).mono ?_); rintro e w65 ⟨rfl, hb⟩; refine ⟨_, rfl, ?_⟩; have n0_ := Aside0.mk (below_step bw hb); clear HB; have HB := n0_; clear n0_; (try clear hb); (try clear hb2); (try clear hk); (try clear hi)) | ((with_reducible refine gate_dst (N := 1) rfl ?_); refine box_event ?hg (N := 1) ?hd (cs := #[.string (⟨#[]⟩ : ByteArray), .string (⟨#[]⟩ : ByteArray), .int .i64 0, .bool false, .int .i64 0, .int .i64 0, .int .i64 0, .int .i64 0]) (t := 29) ?hr ?_; (case hd => rfl); (case hg => rfl); (case hr => first | (go_simp; done) | (go_simp; rfl)); intro gb318 hg w66 hbox hb; have n0_ := Aside0.mk (below_step bw hb); have n1_ := Aside0.mk (hbox); have n2_ := Aside0.mk ((by rw [hg]; exact (below_size bw) : w.heap.size ≤ gb318)); have n3_ := Aside0.mk ((by rw [hg]; exact (below_size bw) : w.heap.size ≤ gb318)); clear HB; have HB := n0_; have BK318 := n1_; have GW318 := n2_; have GE318 := n3_; clear n0_ n1_ n2_ n3_; clear hb hbox hg; have hcz67_0 : w66.cell? ⟨gb318, 0, none⟩ = some (.string (⟨#[]⟩ : ByteArray)) := (blk_cell BK318.out 0).trans rfl; have hcz67_1 : w66.cell? ⟨gb318, 1, none⟩ = some (.string (⟨#[]⟩ : ByteArray)) := (blk_cell BK318.out 1).trans rfl; have hcz67_2 : w66.cell? ⟨gb318, 2, none⟩ = some (.int .i64 0) := (blk_cell BK318.out 2).trans rfl; have hcz67_3 : w66.cell? ⟨gb318, 3, none⟩ = some (.bool false) := (blk_cell BK318.out 3).trans rfl; have hcz67_4 : w66.cell? ⟨gb318, 4, none⟩ = some (.int .i64 0) := (blk_cell BK318.out 4).trans rfl; have hcz67_5 : w66.cell? ⟨gb318, 5, none⟩ = some (.int .i64 0) := (blk_cell BK318.out 5).trans rfl; have hcz67_6 : w66.cell? ⟨gb318, 6, none⟩ = some (.int .i64 0) := (blk_cell BK318.out 6).trans rfl; have hcz67_7 : w66.cell? ⟨gb318, 7, none⟩ = some (.int .i64 0) := (blk_cell BK318.out 7).trans rfl; have hfz67_0 := blk_frozen BK318.out 0; have hfz67_1 := blk_frozen BK318.out 1; have hfz67_2 := blk_frozen BK318.out 2; have hfz67_3 := blk_frozen BK318.out 3; have hfz67_4 := blk_frozen BK318.out 4; have hfz67_5 := blk_frozen BK318.out 5; have hfz67_6 := blk_frozen BK318.out 6; have hfz67_7 := blk_frozen BK318.out 7) | ((with_reducible refine gate_callee (f := 15) rfl ?_); refine goesL_ (some 9) rfl rfl Tryz.func15 (by kernel_rfl) rfl #[.agg #[.string t310, .string t311, .int .i64 t312, .bool t313, .int .i64 t314, .int .i64 t315, .int .i64 t316, .int .i64 t317], .int .i64 5, .int .i64 2] rfl am ?_; (with_reducible refine (roster_Member_Bounced.calls k t310 t311 t312 t313 t314 t315 t316 t317 5 2 t319 t320 t321 t322 t323 t324 t325 t326 _ A2.out).mono ?_); rintro e w68 ⟨rfl, hb⟩; refine ⟨_, rfl, ?_⟩; have n0_ := Aside0.mk (blk_below (g := gb318) (o := .cells #[.string t310, .string t311, .int .i64 t312, .bool t313, .int .i64 t314, .int .i64 t315, .int .i64 t316, .int .i64 t317] 29 (0, 0)) (by (with_reducible repeat (first | refine blk_drewN ?_ _ | refine blk_drew ?_ | refine blk_alloc ?_ _)); refine blk_put (cs := #[.string t310, .string t311, .int .i64 t312, .bool t313, .int .i64 t314, .int .i64 t315, .int .i64 t316, .int .i64 0]) ?_ 7 _ rfl; (with_reducible repeat (first | refine blk_drewN ?_ _ | refine blk_drew ?_ | refine blk_alloc ?_ _)); refine blk_put (cs := #[.string t310, .string t311, .int .i64 t312, .bool t313, .int .i64 t314, .int .i64 t315, .int .i64 0, .int .i64 0]) ?_ 6 _ rfl; (with_reducible repeat (first | refine blk_drewN ?_ _ | refine blk_drew ?_ | refine blk_alloc ?_ _)); refine blk_put (cs := #[.string t310, .string t311, .int .i64 t312, .bool t313, .int .i64 t314, .int .i64 0, .int .i64 0, .int .i64 0]) ?_ 5 _ rfl; (with_reducible repeat (first | refine blk_drewN ?_ _ | refine blk_drew ?_ | refine blk_alloc ?_ _)); refine blk_put (cs := #[.string t310, .string t311, .int .i64 t312, .bool t313, .int .i64 0, .int .i64 0, .int .i64 0, .int .i64 0]) ?_ 4 _ rfl; (with_reducible repeat (first | refine blk_drewN ?_ _ | refine blk_drew ?_ | refine blk_alloc ?_ _)); refine blk_put (cs := #[.string t310, .string t311, .int .i64 t312, .bool false, .int .i64 0, .int .i64 0, .int .i64 0, .int .i64 0]) ?_ 3 _ rfl; (with_reducible repeat (first | refine blk_drewN ?_ _ | refine blk_drew ?_ | refine blk_alloc ?_ _)); refine blk_put (cs := #[.string t310, .string t311, .int .i64 0, .bool false, .int .i64 0, .int .i64 0, .int .i64 0, .int .i64 0]) ?_ 2 _ rfl; (with_reducible repeat (first | refine blk_drewN ?_ _ | refine blk_drew ?_ | refine blk_alloc ?_ _)); refine blk_put (cs := #[.string t310, .string (⟨#[]⟩ : ByteArray), .int .i64 0, .bool false, .int .i64 0, .int .i64 0, .int .i64 0, .int .i64 0]) ?_ 1 _ rfl; (with_reducible repeat (first | refine blk_drewN ?_ _ | refine blk_drew ?_ | refine blk_alloc ?_ _)); exact blk_put (cs := #[.string (⟨#[]⟩ : ByteArray), .string (⟨#[]⟩ : ByteArray), .int .i64 0, .bool false, .int .i64 0, .int .i64 0, .int .i64 0, .int .i64 0]) bk 0 _ rfl) hb); have n1_ := Aside0.mk (below_step bwS hb); clear BK318; clear HB; have BK318 := n0_; have HB := n1_; clear n0_ n1_; (try clear hb); (try clear hb2); (try clear hk); (try clear hi)) | ((with_reducible refine gate_callee (f := 15) rfl ?_); refine goesL_ (some 10) rfl rfl Tryz.func15 (by kernel_rfl) rfl #[.agg #[.string t319, .string t320, .int .i64 t321, .bool t322, .int .i64 t323, .int .i64 t324, .int .i64 t325, .int .i64 t326], .int .i64 5, .int .i64 2] rfl am ?_; (with_reducible refine (roster_Member_Bounced.calls k t319 t320 t321 t322 t323 t324 t325 t326 5 2 t327 t328 t329 false t331 t332 t333 t334 _ A3.out).mono ?_); rintro e w69 ⟨rfl, hb⟩; refine ⟨_, rfl, ?_⟩; have n0_ := Aside0.mk (blk_below (g := gb318) (o := .cells #[.string t310, .string t311, .int .i64 t312, .bool t313, .int .i64 t314, .int .i64 t315, .int .i64 t316, .int .i64 t317] 29 (0, 0)) bk hb); have n1_ := Aside0.mk (below_step bwS hb); clear BK318; clear HB; have BK318 := n0_; have HB := n1_; clear n0_ n1_; (try clear hb); (try clear hb2); (try clear hk); (try clear hi)) | ((with_reducible refine gate_dst (N := 2) rfl ?_); refine box_event ?hg (N := 2) ?hd (cs := #[.string (⟨#[]⟩ : ByteArray), .string (⟨#[]⟩ : ByteArray), .int .i64 0, .bool false, .int .i64 0, .int .i64 0, .int .i64 0, .int .i64 0]) (t := 29) ?hr ?_; (case hd => rfl); (case hg => rfl); (case hr => first | (go_simp; done) | (go_simp; rfl)); intro gb335 hg w70 hbox hb; have n0_ := Aside0.mk (blk_below (g := gb318) (o := .cells #[.string t310, .string t311, .int .i64 t312, .bool t313, .int .i64 t314, .int .i64 t315, .int .i64 t316, .int .i64 t317] 29 (0, 0)) bk hb); have n1_ := Aside0.mk (below_step bwS hb); have n2_ := Aside0.mk (hbox); have n3_ := Aside0.mk ((by rw [hg]; exact (below_size bwS) : w.heap.size ≤ gb335)); have n4_ := Aside0.mk ((by rw [hg]; exact (below_size bwS) : w.heap.size ≤ gb335)); have n5_ := Aside0.mk ((by rw [hg]; exact Nat.ne_of_lt (blk_lt (g := gb318) (o := .cells #[.string t310, .string t311, .int .i64 t312, .bool t313, .int .i64 t314, .int .i64 t315, .int .i64 t316, .int .i64 t317] 29 (0, 0)) bk) : gb318 ≠ gb335)); have n6_ := Aside0.mk ((by rw [hg]; exact Nat.ne_of_gt (blk_lt (g := gb318) (o := .cells #[.string t310, .string t311, .int .i64 t312, .bool t313, .int .i64 t314, .int .i64 t315, .int .i64 t316, .int .i64 t317] 29 (0, 0)) bk) : gb335 ≠ gb318)); clear BK318; clear HB; have BK318 := n0_; have HB := n1_; have BK335 := n2_; have GW335 := n3_; have GE335 := n4_; have NB318_335 := n5_; have NB335_318 := n6_; clear n0_ n1_ n2_ n3_ n4_ n5_ n6_; clear hb hbox hg; have hnb71 := NB335_318.out; have hnc71 := NB318_335.out; have hcz72_0 : w70.cell? ⟨gb335, 0, none⟩ = some (.string (⟨#[]⟩ : ByteArray)) := (blk_cell BK335.out 0).trans rfl; have hcz72_1 : w70.cell? ⟨gb335, 1, none⟩ = some (.string (⟨#[]⟩ : ByteArray)) := (blk_cell BK335.out 1).trans rfl; have hcz72_2 : w70.cell? ⟨gb335, 2, none⟩ = some (.int .i64 0) := (blk_cell BK335.out 2).trans rfl; have hcz72_3 : w70.cell? ⟨gb335, 3, none⟩ = some (.bool false) := (blk_cell BK335.out 3).trans rfl; have hcz72_4 : w70.cell? ⟨gb335, 4, none⟩ = some (.int .i64 0) := (blk_cell BK335.out 4).trans rfl; have hcz72_5 : w70.cell? ⟨gb335, 5, none⟩ = some (.int .i64 0) := (blk_cell BK335.out 5).trans rfl; have hcz72_6 : w70.cell? ⟨gb335, 6, none⟩ = some (.int .i64 0) := (blk_cell BK335.out 6).trans rfl; have hcz72_7 : w70.cell? ⟨gb335, 7, none⟩ = some (.int .i64 0) := (blk_cell BK335.out 7).trans rfl; have hfz72_0 := blk_frozen BK335.out 0; have hfz72_1 := blk_frozen BK335.out 1; have hfz72_2 := blk_frozen BK335.out 2; have hfz72_3 := blk_frozen BK335.out 3; have hfz72_4 := blk_frozen BK335.out 4; have hfz72_5 := blk_frozen BK335.out 5; have hfz72_6 := blk_frozen BK335.out 6; have hfz72_7 := blk_frozen BK335.out 7) | ((with_reducible refine gate_callee (f := 15) rfl ?_); refine goesL_ (some 12) rfl rfl Tryz.func15 (by kernel_rfl) rfl #[.agg #[.string t327, .string t328, .int .i64 t329, .bool false, .int .i64 t331, .int .i64 t332, .int .i64 t333, .int .i64 t334], .int .i64 6, .int .i64 2] rfl am ?_; (with_reducible refine (roster_Member_Bounced.calls k t327 t328 t329 false t331 t332 t333 t334 6 2 t336 t337 t338 true t340 t341 t342 t343 _ A4.out).mono ?_); rintro e w73 ⟨rfl, hb⟩; refine ⟨_, rfl, ?_⟩; have n0_ := Aside0.mk (blk_below (g := gb318) (o := .cells #[.string t310, .string t311, .int .i64 t312, .bool t313, .int .i64 t314, .int .i64 t315, .int .i64 t316, .int .i64 t317] 29 (0, 0)) (by (with_reducible repeat (first | refine blk_drewN ?_ _ | refine blk_drew ?_ | refine blk_alloc ?_ _)); refine blk_far ?_ NB318_335.out _; (with_reducible repeat (first | refine blk_drewN ?_ _ | refine blk_drew ?_ | refine blk_alloc ?_ _)); refine blk_far ?_ NB318_335.out _; (with_reducible repeat (first | refine blk_drewN ?_ _ | refine blk_drew ?_ | refine blk_alloc ?_ _)); refine blk_far ?_ NB318_335.out _; (with_reducible repeat (first | refine blk_drewN ?_ _ | refine blk_drew ?_ | refine blk_alloc ?_ _)); refine blk_far ?_ NB318_335.out _; (with_reducible repeat (first | refine blk_drewN ?_ _ | refine blk_drew ?_ | refine blk_alloc ?_ _)); refine blk_far ?_ NB318_335.out _; (with_reducible repeat (first | refine blk_drewN ?_ _ | refine blk_drew ?_ | refine blk_alloc ?_ _)); refine blk_far ?_ NB318_335.out _; (with_reducible repeat (first | refine blk_drewN ?_ _ | refine blk_drew ?_ | refine blk_alloc ?_ _)); refine blk_far ?_ NB318_335.out _; (with_reducible repeat (first | refine blk_drewN ?_ _ | refine blk_drew ?_ | refine blk_alloc ?_ _)); refine blk_far ?_ NB318_335.out _; (with_reducible repeat (first | refine blk_drewN ?_ _ | refine blk_drew ?_ | refine blk_alloc ?_ _)); exact BK318.out) hb); have n1_ := Aside0.mk (blk_below (g := gb335) (o := .cells #[.string t327, .string t328, .int .i64 t329, .bool false, .int .i64 t331, .int .i64 t332, .int .i64 t333, .int .i64 t334] 29 (0, 0)) (by (with_reducible repeat (first | refine blk_drewN ?_ _ | refine blk_drew ?_ | refine blk_alloc ?_ _)); refine blk_put (cs := #[.string t327, .string t328, .int .i64 t329, .bool false, .int .i64 t331, .int .i64 t332, .int .i64 t333, .int .i64 0]) ?_ 7 _ rfl; (with_reducible repeat (first | refine blk_drewN ?_ _ | refine blk_drew ?_ | refine blk_alloc ?_ _)); refine blk_put (cs := #[.string t327, .string t328, .int .i64 t329, .bool false, .int .i64 t331, .int .i64 t332, .int .i64 0, .int .i64 0]) ?_ 6 _ rfl; (with_reducible repeat (first | refine blk_drewN ?_ _ | refine blk_drew ?_ | refine blk_alloc ?_ _)); refine blk_put (cs := #[.string t327, .string t328, .int .i64 t329, .bool false, .int .i64 t331, .int .i64 0, .int .i64 0, .int .i64 0]) ?_ 5 _ rfl; (with_reducible repeat (first | refine blk_drewN ?_ _ | refine blk_drew ?_ | refine blk_alloc ?_ _)); refine blk_put (cs := #[.string t327, .string t328, .int .i64 t329, .bool false, .int .i64 0, .int .i64 0, .int .i64 0, .int .i64 0]) ?_ 4 _ rfl; (with_reducible repeat (first | refine blk_drewN ?_ _ | refine blk_drew ?_ | refine blk_alloc ?_ _)); refine blk_put (cs := #[.string t327, .string t328, .int .i64 t329, .bool false, .int .i64 0, .int .i64 0, .int .i64 0, .int .i64 0]) ?_ 3 _ rfl; (with_reducible repeat (first | refine blk_drewN ?_ _ | refine blk_drew ?_ | refine blk_alloc ?_ _)); refine blk_put (cs := #[.string t327, .string t328, .int .i64 0, .bool false, .int .i64 0, .int .i64 0, .int .i64 0, .int .i64 0]) ?_ 2 _ rfl; (with_reducible repeat (first | refine blk_drewN ?_ _ | refine blk_drew ?_ | refine blk_alloc ?_ _)); refine blk_put (cs := #[.string t327, .string (⟨#[]⟩ : ByteArray), .int .i64 0, .bool false, .int .i64 0, .int .i64 0, .int .i64 0, .int .i64 0]) ?_ 1 _ rfl; (with_reducible repeat (first | refine blk_drewN ?_ _ | refine blk_drew ?_ | refine blk_alloc ?_ _)); exact blk_put (cs := #[.string (⟨#[]⟩ : ByteArray), .string (⟨#[]⟩ : ByteArray), .int .i64 0, .bool false, .int .i64 0, .int .i64 0, .int .i64 0, .int .i64 0]) bk 0 _ rfl) hb); have n2_ := Aside0.mk (below_step bwS hb); clear BK318; clear BK335; clear HB; have BK318 := n0_; have BK335 := n1_; have HB := n2_; clear n0_ n1_ n2_; (try clear hb); (try clear hb2); (try clear hk); (try clear hi)) | ((with_reducible refine gate_dst (N := 3) rfl ?_); refine box_event ?hg (N := 3) ?hd (cs := #[.string (⟨#[]⟩ : ByteArray), .string (⟨#[]⟩ : ByteArray), .int .i64 0, .bool false, .int .i64 0, .int .i64 0, .int .i64 0, .int .i64 0]) (t := 29) ?hr ?_; (case hd => rfl); (case hg => rfl); (case hr => first | (go_simp; done) | (go_simp; rfl)); intro gb344 hg w74 hbox hb; have n0_ := Aside0.mk (blk_below (g := gb318) (o := .cells #[.string t310, .string t311, .int .i64 t312, .bool t313, .int .i64 t314, .int .i64 t315, .int .i64 t316, .int .i64 t317] 29 (0, 0)) bk hb); have n1_ := Aside0.mk (blk_below (g := gb335) (o := .cells #[.string t327, .string t328, .int .i64 t329, .bool false, .int .i64 t331, .int .i64 t332, .int .i64 t333, .int .i64 t334] 29 (0, 0)) bk hb); have n2_ := Aside0.mk (below_step bwS hb); have n3_ := Aside0.mk (hbox); have n4_ := Aside0.mk ((by rw [hg]; exact (below_size bwS) : w.heap.size ≤ gb344)); have n5_ := Aside0.mk ((by rw [hg]; exact (below_size bwS) : w.heap.size ≤ gb344)); have n6_ := Aside0.mk ((by rw [hg]; exact Nat.ne_of_lt (blk_lt (g := gb318) (o := .cells #[.string t310, .string t311, .int .i64 t312, .bool t313, .int .i64 t314, .int .i64 t315, .int .i64 t316, .int .i64 t317] 29 (0, 0)) bk) : gb318 ≠ gb344)); have n7_ := Aside0.mk ((by rw [hg]; exact Nat.ne_of_gt (blk_lt (g := gb318) (o := .cells #[.string t310, .string t311, .int .i64 t312, .bool t313, .int .i64 t314, .int .i64 t315, .int .i64 t316, .int .i64 t317] 29 (0, 0)) bk) : gb344 ≠ gb318)); have n8_ := Aside0.mk ((by rw [hg]; exact Nat.ne_of_lt (blk_lt (g := gb335) (o := .cells #[.string t327, .string t328, .int .i64 t329, .bool false, .int .i64 t331, .int .i64 t332, .int .i64 t333, .int .i64 t334] 29 (0, 0)) bk) : gb335 ≠ gb344)); have n9_ := Aside0.mk ((by rw [hg]; exact Nat.ne_of_gt (blk_lt (g := gb335) (o := .cells #[.string t327, .string t328, .int .i64 t329, .bool false, .int .i64 t331, .int .i64 t332, .int .i64 t333, .int .i64 t334] 29 (0, 0)) bk) : gb344 ≠ gb335)); clear BK318; clear BK335; clear HB; have BK318 := n0_; have BK335 := n1_; have HB := n2_; have BK344 := n3_; have GW344 := n4_; have GE344 := n5_; have NB318_344 := n6_; have NB344_318 := n7_; have NB335_344 := n8_; have NB344_335 := n9_; clear n0_ n1_ n2_ n3_ n4_ n5_ n6_ n7_ n8_ n9_; clear hb hbox hg; have hnb75 := NB344_318.out; have hnc75 := NB318_344.out; have hnb76 := NB344_335.out; have hnc76 := NB335_344.out; have hcz77_0 : w74.cell? ⟨gb344, 0, none⟩ = some (.string (⟨#[]⟩ : ByteArray)) := (blk_cell BK344.out 0).trans rfl; have hcz77_1 : w74.cell? ⟨gb344, 1, none⟩ = some (.string (⟨#[]⟩ : ByteArray)) := (blk_cell BK344.out 1).trans rfl; have hcz77_2 : w74.cell? ⟨gb344, 2, none⟩ = some (.int .i64 0) := (blk_cell BK344.out 2).trans rfl; have hcz77_3 : w74.cell? ⟨gb344, 3, none⟩ = some (.bool false) := (blk_cell BK344.out 3).trans rfl; have hcz77_4 : w74.cell? ⟨gb344, 4, none⟩ = some (.int .i64 0) := (blk_cell BK344.out 4).trans rfl; have hcz77_5 : w74.cell? ⟨gb344, 5, none⟩ = some (.int .i64 0) := (blk_cell BK344.out 5).trans rfl; have hcz77_6 : w74.cell? ⟨gb344, 6, none⟩ = some (.int .i64 0) := (blk_cell BK344.out 6).trans rfl; have hcz77_7 : w74.cell? ⟨gb344, 7, none⟩ = some (.int .i64 0) := (blk_cell BK344.out 7).trans rfl; have hfz77_0 := blk_frozen BK344.out 0; have hfz77_1 := blk_frozen BK344.out 1; have hfz77_2 := blk_frozen BK344.out 2; have hfz77_3 := blk_frozen BK344.out 3; have hfz77_4 := blk_frozen BK344.out 4; have hfz77_5 := blk_frozen BK344.out 5; have hfz77_6 := blk_frozen BK344.out 6; have hfz77_7 := blk_frozen BK344.out 7) | ((with_reducible refine gate_callee (f := 9) rfl ?_); refine goesL_ (some 15) rfl rfl Tryz.func9 (by kernel_rfl) rfl #[.agg #[.string t336, .string t337, .int .i64 t338, .bool true, .int .i64 t340, .int .i64 t341, .int .i64 t342, .int .i64 t343]] rfl am ?_; (with_reducible refine (roster_Member_Row.calls (hG := by first | exact hG | exact GlobT.below hG (by first | exact HB.out | (repeat (first | (with_reducible first | exact HB.out | apply below_alloc | apply pw_below_drewN | apply below_drew1 | refine below_set ?_ GE318.out | refine below_set ?_ GE335.out | refine below_set ?_ GE344.out | refine below_set ?_ GE355.out) | exact HB.out))) | exact GlobT.drawn hG (d0)) k t336 t337 t338 true t340 t341 t342 t343 t345 _ A5.out).mono ?_); rintro e w78 ⟨rfl, hb⟩; refine ⟨_, rfl, ?_⟩; have n0_ := Aside0.mk (blk_below (g := gb318) (o := .cells #[.string t310, .string t311, .int .i64 t312, .bool t313, .int .i64 t314, .int .i64 t315, .int .i64 t316, .int .i64 t317] 29 (0, 0)) (by (with_reducible repeat (first | refine blk_drewN ?_ _ | refine blk_drew ?_ | refine blk_alloc ?_ _)); refine blk_far ?_ NB318_344.out _; (with_reducible repeat (first | refine blk_drewN ?_ _ | refine blk_drew ?_ | refine blk_alloc ?_ _)); refine blk_far ?_ NB318_344.out _; (with_reducible repeat (first | refine blk_drewN ?_ _ | refine blk_drew ?_ | refine blk_alloc ?_ _)); refine blk_far ?_ NB318_344.out _; (with_reducible repeat (first | refine blk_drewN ?_ _ | refine blk_drew ?_ | refine blk_alloc ?_ _)); refine blk_far ?_ NB318_344.out _; (with_reducible repeat (first | refine blk_drewN ?_ _ | refine blk_drew ?_ | refine blk_alloc ?_ _)); refine blk_far ?_ NB318_344.out _; (with_reducible repeat (first | refine blk_drewN ?_ _ | refine blk_drew ?_ | refine blk_alloc ?_ _)); refine blk_far ?_ NB318_344.out _; (with_reducible repeat (first | refine blk_drewN ?_ _ | refine blk_drew ?_ | refine blk_alloc ?_ _)); refine blk_far ?_ NB318_344.out _; (with_reducible repeat (first | refine blk_drewN ?_ _ | refine blk_drew ?_ | refine blk_alloc ?_ _)); refine blk_far ?_ NB318_344.out _; (with_reducible repeat (first | refine blk_drewN ?_ _ | refine blk_drew ?_ | refine blk_alloc ?_ _)); exact BK318.out) hb); have n1_ := Aside0.mk (blk_below (g := gb335) (o := .cells #[.string t327, .string t328, .int .i64 t329, .bool false, .int .i64 t331, .int .i64 t332, .int .i64 t333, .int .i64 t334] 29 (0, 0)) (by (with_reducible repeat (first | refine blk_drewN ?_ _ | refine blk_drew ?_ | refine blk_alloc ?_ _)); refine blk_far ?_ NB335_344.out _; (with_reducible repeat (first | refine blk_drewN ?_ _ | refine blk_drew ?_ | refine blk_alloc ?_ _)); refine blk_far ?_ NB335_344.out _; (with_reducible repeat (first | refine blk_drewN ?_ _ | refine blk_drew ?_ | refine blk_alloc ?_ _)); refine blk_far ?_ NB335_344.out _; (with_reducible repeat (first | refine blk_drewN ?_ _ | refine blk_drew ?_ | refine blk_alloc ?_ _)); refine blk_far ?_ NB335_344.out _; (with_reducible repeat (first | refine blk_drewN ?_ _ | refine blk_drew ?_ | refine blk_alloc ?_ _)); refine blk_far ?_ NB335_344.out _; (with_reducible repeat (first | refine blk_drewN ?_ _ | refine blk_drew ?_ | refine blk_alloc ?_ _)); refine blk_far ?_ NB335_344.out _; (with_reducible repeat (first | refine blk_drewN ?_ _ | refine blk_drew ?_ | refine blk_alloc ?_ _)); refine blk_far ?_ NB335_344.out _; (with_reducible repeat (first | refine blk_drewN ?_ _ | refine blk_drew ?_ | refine blk_alloc ?_ _)); refine blk_far ?_ NB335_344.out _; (with_reducible repeat (first | refine blk_drewN ?_ _ | refine blk_drew ?_ | refine blk_alloc ?_ _)); exact BK335.out) hb); have n2_ := Aside0.mk (blk_below (g := gb344) (o := .cells #[.string t336, .string t337, .int .i64 t338, .bool true, .int .i64 t340, .int .i64 t341, .int .i64 t342, .int .i64 t343] 29 (0, 0)) (by (with_reducible repeat (first | refine blk_drewN ?_ _ | refine blk_drew ?_ | refine blk_alloc ?_ _)); refine blk_put (cs := #[.string t336, .string t337, .int .i64 t338, .bool true, .int .i64 t340, .int .i64 t341, .int .i64 t342, .int .i64 0]) ?_ 7 _ rfl; (with_reducible repeat (first | refine blk_drewN ?_ _ | refine blk_drew ?_ | refine blk_alloc ?_ _)); refine blk_put (cs := #[.string t336, .string t337, .int .i64 t338, .bool true, .int .i64 t340, .int .i64 t341, .int .i64 0, .int .i64 0]) ?_ 6 _ rfl; (with_reducible repeat (first | refine blk_drewN ?_ _ | refine blk_drew ?_ | refine blk_alloc ?_ _)); refine blk_put (cs := #[.string t336, .string t337, .int .i64 t338, .bool true, .int .i64 t340, .int .i64 0, .int .i64 0, .int .i64 0]) ?_ 5 _ rfl; (with_reducible repeat (first | refine blk_drewN ?_ _ | refine blk_drew ?_ | refine blk_alloc ?_ _)); refine blk_put (cs := #[.string t336, .string t337, .int .i64 t338, .bool true, .int .i64 0, .int .i64 0, .int .i64 0, .int .i64 0]) ?_ 4 _ rfl; (with_reducible repeat (first | refine blk_drewN ?_ _ | refine blk_drew ?_ | refine blk_alloc ?_ _)); refine blk_put (cs := #[.string t336, .string t337, .int .i64 t338, .bool false, .int .i64 0, .int .i64 0, .int .i64 0, .int .i64 0]) ?_ 3 _ rfl; (with_reducible repeat (first | refine blk_drewN ?_ _ | refine blk_drew ?_ | refine blk_alloc ?_ _)); refine blk_put (cs := #[.string t336, .string t337, .int .i64 0, .bool false, .int .i64 0, .int .i64 0, .int .i64 0, .int .i64 0]) ?_ 2 _ rfl; (with_reducible repeat (first | refine blk_drewN ?_ _ | refine blk_drew ?_ | refine blk_alloc ?_ _)); refine blk_put (cs := #[.string t336, .string (⟨#[]⟩ : ByteArray), .int .i64 0, .bool false, .int .i64 0, .int .i64 0, .int .i64 0, .int .i64 0]) ?_ 1 _ rfl; (with_reducible repeat (first | refine blk_drewN ?_ _ | refine blk_drew ?_ | refine blk_alloc ?_ _)); exact blk_put (cs := #[.string (⟨#[]⟩ : ByteArray), .string (⟨#[]⟩ : ByteArray), .int .i64 0, .bool false, .int .i64 0, .int .i64 0, .int .i64 0, .int .i64 0]) bk 0 _ rfl) hb); have n3_ := Aside0.mk (below_step bwS hb); clear BK318; clear BK335; clear BK344; clear HB; have BK318 := n0_; have BK335 := n1_; have BK344 := n2_; have HB := n3_; clear n0_ n1_ n2_ n3_; (try clear hb); (try clear hb2); (try clear hk); (try clear hi)) | ((with_reducible refine gate_callee (f := 6) rfl ?_); refine goesL_ (some 16) rfl rfl Tryz.func6 (by kernel_rfl) rfl #[.string t345] rfl am ?_; (with_reducible refine (roster_Read.calls (hG := by first | exact hG | exact GlobT.below hG (by first | exact HB.out | (repeat (first | (with_reducible first | exact HB.out | apply below_alloc | apply pw_below_drewN | apply below_drew1 | refine below_set ?_ GE318.out | refine below_set ?_ GE335.out | refine below_set ?_ GE344.out | refine below_set ?_ GE355.out) | exact HB.out))) | exact GlobT.drawn hG (d0)) k t345 t346 t347 t348 t349 t350 t351 t352 t353 t354 _ A6.out).mono ?_); rintro e w79 ⟨rfl, hb⟩; refine ⟨_, rfl, ?_⟩; have n0_ := Aside0.mk (blk_below (g := gb318) (o := .cells #[.string t310, .string t311, .int .i64 t312, .bool t313, .int .i64 t314, .int .i64 t315, .int .i64 t316, .int .i64 t317] 29 (0, 0)) bk hb); have n1_ := Aside0.mk (blk_below (g := gb335) (o := .cells #[.string t327, .string t328, .int .i64 t329, .bool false, .int .i64 t331, .int .i64 t332, .int .i64 t333, .int .i64 t334] 29 (0, 0)) bk hb); have n2_ := Aside0.mk (blk_below (g := gb344) (o := .cells #[.string t336, .string t337, .int .i64 t338, .bool true, .int .i64 t340, .int .i64 t341, .int .i64 t342, .int .i64 t343] 29 (0, 0)) bk hb); have n3_ := Aside0.mk (below_step bwS hb); clear BK318; clear BK335; clear BK344; clear HB; have BK318 := n0_; have BK335 := n1_; have BK344 := n2_; have HB := n3_; clear n0_ n1_ n2_ n3_; (try clear hb); (try clear hb2); (try clear hk); (try clear hi)) | ((with_reducible refine gate_dst (N := 4) rfl ?_); refine box_event ?hg (N := 4) ?hd (cs := #[.string (⟨#[]⟩ : ByteArray), .string (⟨#[]⟩ : ByteArray), .int .i64 0, .bool false, .int .i64 0, .int .i64 0, .int .i64 0, .int .i64 0]) (t := 29) ?hr ?_; (case hd => rfl); (case hg => rfl); (case hr => first | (go_simp; done) | (go_simp; rfl)); intro gb355 hg w80 hbox hb; have n0_ := Aside0.mk (blk_below (g := gb318) (o := .cells #[.string t310, .string t311, .int .i64 t312, .bool t313, .int .i64 t314, .int .i64 t315, .int .i64 t316, .int .i64 t317] 29 (0, 0)) bk hb); have n1_ := Aside0.mk (blk_below (g := gb335) (o := .cells #[.string t327, .string t328, .int .i64 t329, .bool false, .int .i64 t331, .int .i64 t332, .int .i64 t333, .int .i64 t334] 29 (0, 0)) bk hb); have n2_ := Aside0.mk (blk_below (g := gb344) (o := .cells #[.string t336, .string t337, .int .i64 t338, .bool true, .int .i64 t340, .int .i64 t341, .int .i64 t342, .int .i64 t343] 29 (0, 0)) bk hb); have n3_ := Aside0.mk (below_step bwS hb); have n4_ := Aside0.mk (hbox); have n5_ := Aside0.mk ((by rw [hg]; exact (below_size bwS) : w.heap.size ≤ gb355)); have n6_ := Aside0.mk ((by rw [hg]; exact (below_size bwS) : w.heap.size ≤ gb355)); have n7_ := Aside0.mk ((by rw [hg]; exact Nat.ne_of_lt (blk_lt (g := gb318) (o := .cells #[.string t310, .string t311, .int .i64 t312, .bool t313, .int .i64 t314, .int .i64 t315, .int .i64 t316, .int .i64 t317] 29 (0, 0)) bk) : gb318 ≠ gb355)); have n8_ := Aside0.mk ((by rw [hg]; exact Nat.ne_of_gt (blk_lt (g := gb318) (o := .cells #[.string t310, .string t311, .int .i64 t312, .bool t313, .int .i64 t314, .int .i64 t315, .int .i64 t316, .int .i64 t317] 29 (0, 0)) bk) : gb355 ≠ gb318)); have n9_ := Aside0.mk ((by rw [hg]; exact Nat.ne_of_lt (blk_lt (g := gb335) (o := .cells #[.string t327, .string t328, .int .i64 t329, .bool false, .int .i64 t331, .int .i64 t332, .int .i64 t333, .int .i64 t334] 29 (0, 0)) bk) : gb335 ≠ gb355)); have n10_ := Aside0.mk ((by rw [hg]; exact Nat.ne_of_gt (blk_lt (g := gb335) (o := .cells #[.string t327, .string t328, .int .i64 t329, .bool false, .int .i64 t331, .int .i64 t332, .int .i64 t333, .int .i64 t334] 29 (0, 0)) bk) : gb355 ≠ gb335)); have n11_ := Aside0.mk ((by rw [hg]; exact Nat.ne_of_lt (blk_lt (g := gb344) (o := .cells #[.string t336, .string t337, .int .i64 t338, .bool true, .int .i64 t340, .int .i64 t341, .int .i64 t342, .int .i64 t343] 29 (0, 0)) bk) : gb344 ≠ gb355)); have n12_ := Aside0.mk ((by rw [hg]; exact Nat.ne_of_gt (blk_lt (g := gb344) (o := .cells #[.string t336, .string t337, .int .i64 t338, .bool true, .int .i64 t340, .int .i64 t341, .int .i64 t342, .int .i64 t343] 29 (0, 0)) bk) : gb355 ≠ gb344)); clear BK318; clear BK335; clear BK344; clear HB; have BK318 := n0_; have BK335 := n1_; have BK344 := n2_; have HB := n3_; have BK355 := n4_; have GW355 := n5_; have GE355 := n6_; have NB318_355 := n7_; have NB355_318 := n8_; have NB335_355 := n9_; have NB355_335 := n10_; have NB344_355 := n11_; have NB355_344 := n12_; clear n0_ n1_ n2_ n3_ n4_ n5_ n6_ n7_ n8_ n9_ n10_ n11_ n12_; clear hb hbox hg; have hnb81 := NB355_318.out; have hnc81 := NB318_355.out; have hnb82 := NB355_335.out; have hnc82 := NB335_355.out; have hnb83 := NB355_344.out; have hnc83 := NB344_355.out; have hcz84_0 : w80.cell? ⟨gb355, 0, none⟩ = some (.string (⟨#[]⟩ : ByteArray)) := (blk_cell BK355.out 0).trans rfl; have hcz84_1 : w80.cell? ⟨gb355, 1, none⟩ = some (.string (⟨#[]⟩ : ByteArray)) := (blk_cell BK355.out 1).trans rfl; have hcz84_2 : w80.cell? ⟨gb355, 2, none⟩ = some (.int .i64 0) := (blk_cell BK355.out 2).trans rfl; have hcz84_3 : w80.cell? ⟨gb355, 3, none⟩ = some (.bool false) := (blk_cell BK355.out 3).trans rfl; have hcz84_4 : w80.cell? ⟨gb355, 4, none⟩ = some (.int .i64 0) := (blk_cell BK355.out 4).trans rfl; have hcz84_5 : w80.cell? ⟨gb355, 5, none⟩ = some (.int .i64 0) := (blk_cell BK355.out 5).trans rfl; have hcz84_6 : w80.cell? ⟨gb355, 6, none⟩ = some (.int .i64 0) := (blk_cell BK355.out 6).trans rfl; have hcz84_7 : w80.cell? ⟨gb355, 7, none⟩ = some (.int .i64 0) := (blk_cell BK355.out 7).trans rfl; have hfz84_0 := blk_frozen BK355.out 0; have hfz84_1 := blk_frozen BK355.out 1; have hfz84_2 := blk_frozen BK355.out 2; have hfz84_3 := blk_frozen BK355.out 3; have hfz84_4 := blk_frozen BK355.out 4; have hfz84_5 := blk_frozen BK355.out 5; have hfz84_6 := blk_frozen BK355.out 6; have hfz84_7 := blk_frozen BK355.out 7; have hcz85_0 : w80.cell? ⟨gb318, 0, none⟩ = some (.string t310) := (blk_cell BK318.out 0).trans rfl; have hcz85_1 : w80.cell? ⟨gb318, 1, none⟩ = some (.string t311) := (blk_cell BK318.out 1).trans rfl; have hcz85_2 : w80.cell? ⟨gb318, 2, none⟩ = some (.int .i64 t312) := (blk_cell BK318.out 2).trans rfl; have hcz85_3 : w80.cell? ⟨gb318, 3, none⟩ = some (.bool t313) := (blk_cell BK318.out 3).trans rfl; have hcz85_4 : w80.cell? ⟨gb318, 4, none⟩ = some (.int .i64 t314) := (blk_cell BK318.out 4).trans rfl; have hcz85_5 : w80.cell? ⟨gb318, 5, none⟩ = some (.int .i64 t315) := (blk_cell BK318.out 5).trans rfl; have hcz85_6 : w80.cell? ⟨gb318, 6, none⟩ = some (.int .i64 t316) := (blk_cell BK318.out 6).trans rfl; have hcz85_7 : w80.cell? ⟨gb318, 7, none⟩ = some (.int .i64 t317) := (blk_cell BK318.out 7).trans rfl; have hfz85_0 := blk_frozen BK318.out 0; have hfz85_1 := blk_frozen BK318.out 1; have hfz85_2 := blk_frozen BK318.out 2; have hfz85_3 := blk_frozen BK318.out 3; have hfz85_4 := blk_frozen BK318.out 4; have hfz85_5 := blk_frozen BK318.out 5; have hfz85_6 := blk_frozen BK318.out 6; have hfz85_7 := blk_frozen BK318.out 7) | ((with_reducible refine gate_callee (f := 13) rfl ?_); refine goesL_ (some 20) rfl rfl Tryz.func13 (by kernel_rfl) rfl #[.agg #[.string t310, .string t311, .int .i64 t312, .bool t313, .int .i64 t314, .int .i64 t315, .int .i64 t316, .int .i64 t317], .int .i64 1] rfl am ?_; (with_reducible refine (roster_Member_Gets.calls t310 t311 t312 t313 t314 t315 t316 t317 1 true _ A7.out).mono ?_); rintro e w86 ⟨rfl, hb⟩; refine ⟨_, rfl, ?_⟩; have n0_ := Aside0.mk (blk_below (g := gb318) (o := .cells #[.string t310, .string t311, .int .i64 t312, .bool t313, .int .i64 t314, .int .i64 t315, .int .i64 t316, .int .i64 t317] 29 (0, 0)) (by (with_reducible repeat (first | refine blk_drewN ?_ _ | refine blk_drew ?_ | refine blk_alloc ?_ _)); refine blk_far ?_ NB318_355.out _; (with_reducible repeat (first | refine blk_drewN ?_ _ | refine blk_drew ?_ | refine blk_alloc ?_ _)); refine blk_far ?_ NB318_355.out _; (with_reducible repeat (first | refine blk_drewN ?_ _ | refine blk_drew ?_ | refine blk_alloc ?_ _)); refine blk_far ?_ NB318_355.out _; (with_reducible repeat (first | refine blk_drewN ?_ _ | refine blk_drew ?_ | refine blk_alloc ?_ _)); refine blk_far ?_ NB318_355.out _; (with_reducible repeat (first | refine blk_drewN ?_ _ | refine blk_drew ?_ | refine blk_alloc ?_ _)); refine blk_far ?_ NB318_355.out _; (with_reducible repeat (first | refine blk_drewN ?_ _ | refine blk_drew ?_ | refine blk_alloc ?_ _)); refine blk_far ?_ NB318_355.out _; (with_reducible repeat (first | refine blk_drewN ?_ _ | refine blk_drew ?_ | refine blk_alloc ?_ _)); refine blk_far ?_ NB318_355.out _; (with_reducible repeat (first | refine blk_drewN ?_ _ | refine blk_drew ?_ | refine blk_alloc ?_ _)); refine blk_far ?_ NB318_355.out _; (with_reducible repeat (first | refine blk_drewN ?_ _ | refine blk_drew ?_ | refine blk_alloc ?_ _)); exact BK318.out) hb); have n1_ := Aside0.mk (blk_below (g := gb335) (o := .cells #[.string t327, .string t328, .int .i64 t329, .bool false, .int .i64 t331, .int .i64 t332, .int .i64 t333, .int .i64 t334] 29 (0, 0)) (by (with_reducible repeat (first | refine blk_drewN ?_ _ | refine blk_drew ?_ | refine blk_alloc ?_ _)); refine blk_far ?_ NB335_355.out _; (with_reducible repeat (first | refine blk_drewN ?_ _ | refine blk_drew ?_ | refine blk_alloc ?_ _)); refine blk_far ?_ NB335_355.out _; (with_reducible repeat (first | refine blk_drewN ?_ _ | refine blk_drew ?_ | refine blk_alloc ?_ _)); refine blk_far ?_ NB335_355.out _; (with_reducible repeat (first | refine blk_drewN ?_ _ | refine blk_drew ?_ | refine blk_alloc ?_ _)); refine blk_far ?_ NB335_355.out _; (with_reducible repeat (first | refine blk_drewN ?_ _ | refine blk_drew ?_ | refine blk_alloc ?_ _)); refine blk_far ?_ NB335_355.out _; (with_reducible repeat (first | refine blk_drewN ?_ _ | refine blk_drew ?_ | refine blk_alloc ?_ _)); refine blk_far ?_ NB335_355.out _; (with_reducible repeat (first | refine blk_drewN ?_ _ | refine blk_drew ?_ | refine blk_alloc ?_ _)); refine blk_far ?_ NB335_355.out _; (with_reducible repeat (first | refine blk_drewN ?_ _ | refine blk_drew ?_ | refine blk_alloc ?_ _)); refine blk_far ?_ NB335_355.out _; (with_reducible repeat (first | refine blk_drewN ?_ _ | refine blk_drew ?_ | refine blk_alloc ?_ _)); exact BK335.out) hb); have n2_ := Aside0.mk (blk_below (g := gb344) (o := .cells #[.string t336, .string t337, .int .i64 t338, .bool true, .int .i64 t340, .int .i64 t341, .int .i64 t342, .int .i64 t343] 29 (0, 0)) (by (with_reducible repeat (first | refine blk_drewN ?_ _ | refine blk_drew ?_ | refine blk_alloc ?_ _)); refine blk_far ?_ NB344_355.out _; (with_reducible repeat (first | refine blk_drewN ?_ _ | refine blk_drew ?_ | refine blk_alloc ?_ _)); refine blk_far ?_ NB344_355.out _; (with_reducible repeat (first | refine blk_drewN ?_ _ | refine blk_drew ?_ | refine blk_alloc ?_ _)); refine blk_far ?_ NB344_355.out _; (with_reducible repeat (first | refine blk_drewN ?_ _ | refine blk_drew ?_ | refine blk_alloc ?_ _)); refine blk_far ?_ NB344_355.out _; (with_reducible repeat (first | refine blk_drewN ?_ _ | refine blk_drew ?_ | refine blk_alloc ?_ _)); refine blk_far ?_ NB344_355.out _; (with_reducible repeat (first | refine blk_drewN ?_ _ | refine blk_drew ?_ | refine blk_alloc ?_ _)); refine blk_far ?_ NB344_355.out _; (with_reducible repeat (first | refine blk_drewN ?_ _ | refine blk_drew ?_ | refine blk_alloc ?_ _)); refine blk_far ?_ NB344_355.out _; (with_reducible repeat (first | refine blk_drewN ?_ _ | refine blk_drew ?_ | refine blk_alloc ?_ _)); refine blk_far ?_ NB344_355.out _; (with_reducible repeat (first | refine blk_drewN ?_ _ | refine blk_drew ?_ | refine blk_alloc ?_ _)); exact BK344.out) hb); have n3_ := Aside0.mk (blk_below (g := gb355) (o := .cells #[.string t346, .string t347, .int .i64 t348, .bool t349, .int .i64 t350, .int .i64 t351, .int .i64 t352, .int .i64 t353] 29 (0, 0)) (by (with_reducible repeat (first | refine blk_drewN ?_ _ | refine blk_drew ?_ | refine blk_alloc ?_ _)); refine blk_put (cs := #[.string t346, .string t347, .int .i64 t348, .bool t349, .int .i64 t350, .int .i64 t351, .int .i64 t352, .int .i64 0]) ?_ 7 _ rfl; (with_reducible repeat (first | refine blk_drewN ?_ _ | refine blk_drew ?_ | refine blk_alloc ?_ _)); refine blk_put (cs := #[.string t346, .string t347, .int .i64 t348, .bool t349, .int .i64 t350, .int .i64 t351, .int .i64 0, .int .i64 0]) ?_ 6 _ rfl; (with_reducible repeat (first | refine blk_drewN ?_ _ | refine blk_drew ?_ | refine blk_alloc ?_ _)); refine blk_put (cs := #[.string t346, .string t347, .int .i64 t348, .bool t349, .int .i64 t350, .int .i64 0, .int .i64 0, .int .i64 0]) ?_ 5 _ rfl; (with_reducible repeat (first | refine blk_drewN ?_ _ | refine blk_drew ?_ | refine blk_alloc ?_ _)); refine blk_put (cs := #[.string t346, .string t347, .int .i64 t348, .bool t349, .int .i64 0, .int .i64 0, .int .i64 0, .int .i64 0]) ?_ 4 _ rfl; (with_reducible repeat (first | refine blk_drewN ?_ _ | refine blk_drew ?_ | refine blk_alloc ?_ _)); refine blk_put (cs := #[.string t346, .string t347, .int .i64 t348, .bool false, .int .i64 0, .int .i64 0, .int .i64 0, .int .i64 0]) ?_ 3 _ rfl; (with_reducible repeat (first | refine blk_drewN ?_ _ | refine blk_drew ?_ | refine blk_alloc ?_ _)); refine blk_put (cs := #[.string t346, .string t347, .int .i64 0, .bool false, .int .i64 0, .int .i64 0, .int .i64 0, .int .i64 0]) ?_ 2 _ rfl; (with_reducible repeat (first | refine blk_drewN ?_ _ | refine blk_drew ?_ | refine blk_alloc ?_ _)); refine blk_put (cs := #[.string t346, .string (⟨#[]⟩ : ByteArray), .int .i64 0, .bool false, .int .i64 0, .int .i64 0, .int .i64 0, .int .i64 0]) ?_ 1 _ rfl; (with_reducible repeat (first | refine blk_drewN ?_ _ | refine blk_drew ?_ | refine blk_alloc ?_ _)); exact blk_put (cs := #[.string (⟨#[]⟩ : ByteArray), .string (⟨#[]⟩ : ByteArray), .int .i64 0, .bool false, .int .i64 0, .int .i64 0, .int .i64 0, .int .i64 0]) bk 0 _ rfl) hb); have n4_ := Aside0.mk (below_step bwS hb); clear BK318; clear BK335; clear BK344; clear BK355; clear HB; have BK318 := n0_; have BK335 := n1_; have BK344 := n2_; have BK355 := n3_; have HB := n4_; clear n0_ n1_ n2_ n3_ n4_; (try clear hb); (try clear hb2); (try clear hk); (try clear hi); have hcz87_0 : w86.cell? ⟨gb318, 0, none⟩ = some (.string t310) := (blk_cell BK318.out 0).trans rfl; have hcz87_1 : w86.cell? ⟨gb318, 1, none⟩ = some (.string t311) := (blk_cell BK318.out 1).trans rfl; have hcz87_2 : w86.cell? ⟨gb318, 2, none⟩ = some (.int .i64 t312) := (blk_cell BK318.out 2).trans rfl; have hcz87_3 : w86.cell? ⟨gb318, 3, none⟩ = some (.bool t313) := (blk_cell BK318.out 3).trans rfl; have hcz87_4 : w86.cell? ⟨gb318, 4, none⟩ = some (.int .i64 t314) := (blk_cell BK318.out 4).trans rfl; have hcz87_5 : w86.cell? ⟨gb318, 5, none⟩ = some (.int .i64 t315) := (blk_cell BK318.out 5).trans rfl; have hcz87_6 : w86.cell? ⟨gb318, 6, none⟩ = some (.int .i64 t316) := (blk_cell BK318.out 6).trans rfl; have hcz87_7 : w86.cell? ⟨gb318, 7, none⟩ = some (.int .i64 t317) := (blk_cell BK318.out 7).trans rfl; have hfz87_0 := blk_frozen BK318.out 0; have hfz87_1 := blk_frozen BK318.out 1; have hfz87_2 := blk_frozen BK318.out 2; have hfz87_3 := blk_frozen BK318.out 3; have hfz87_4 := blk_frozen BK318.out 4; have hfz87_5 := blk_frozen BK318.out 5; have hfz87_6 := blk_frozen BK318.out 6; have hfz87_7 := blk_frozen BK318.out 7) | (go_at_call 13; (with_reducible refine (roster_Member_Gets.calls t310 t311 t312 t313 t314 t315 t316 t317 2 false _ A9.out).mono ?_); rintro e w88 ⟨rfl, hb⟩; have n0_ := Aside0.mk (blk_below (g := gb318) (o := .cells #[.string t310, .string t311, .int .i64 t312, .bool t313, .int .i64 t314, .int .i64 t315, .int .i64 t316, .int .i64 t317] 29 (0, 0)) bk hb); have n1_ := Aside0.mk (blk_below (g := gb335) (o := .cells #[.string t327, .string t328, .int .i64 t329, .bool false, .int .i64 t331, .int .i64 t332, .int .i64 t333, .int .i64 t334] 29 (0, 0)) bk hb); have n2_ := Aside0.mk (blk_below (g := gb344) (o := .cells #[.string t336, .string t337, .int .i64 t338, .bool true, .int .i64 t340, .int .i64 t341, .int .i64 t342, .int .i64 t343] 29 (0, 0)) bk hb); have n3_ := Aside0.mk (blk_below (g := gb355) (o := .cells #[.string t346, .string t347, .int .i64 t348, .bool t349, .int .i64 t350, .int .i64 t351, .int .i64 t352, .int .i64 t353] 29 (0, 0)) bk hb); have n4_ := Aside0.mk (below_step bwS hb); clear BK318; clear BK335; clear BK344; clear BK355; clear HB; have BK318 := n0_; have BK335 := n1_; have BK344 := n2_; have BK355 := n3_; have HB := n4_; clear n0_ n1_ n2_ n3_ n4_; (try clear hb); (try clear hb2); (try clear hk); (try clear hi); have hcz89_0 : w88.cell? ⟨gb335, 0, none⟩ = some (.string t327) := (blk_cell BK335.out 0).trans rfl; have hcz89_1 : w88.cell? ⟨gb335, 1, none⟩ = some (.string t328) := (blk_cell BK335.out 1).trans rfl; have hcz89_2 : w88.cell? ⟨gb335, 2, none⟩ = some (.int .i64 t329) := (blk_cell BK335.out 2).trans rfl; have hcz89_3 : w88.cell? ⟨gb335, 3, none⟩ = some (.bool false) := (blk_cell BK335.out 3).trans rfl; have hcz89_4 : w88.cell? ⟨gb335, 4, none⟩ = some (.int .i64 t331) := (blk_cell BK335.out 4).trans rfl; have hcz89_5 : w88.cell? ⟨gb335, 5, none⟩ = some (.int .i64 t332) := (blk_cell BK335.out 5).trans rfl; have hcz89_6 : w88.cell? ⟨gb335, 6, none⟩ = some (.int .i64 t333) := (blk_cell BK335.out 6).trans rfl; have hcz89_7 : w88.cell? ⟨gb335, 7, none⟩ = some (.int .i64 t334) := (blk_cell BK335.out 7).trans rfl; have hfz89_0 := blk_frozen BK335.out 0; have hfz89_1 := blk_frozen BK335.out 1; have hfz89_2 := blk_frozen BK335.out 2; have hfz89_3 := blk_frozen BK335.out 3; have hfz89_4 := blk_frozen BK335.out 4; have hfz89_5 := blk_frozen BK335.out 5; have hfz89_6 := blk_frozen BK335.out 6; have hfz89_7 := blk_frozen BK335.out 7; have hcz90_0 : w88.cell? ⟨gb344, 0, none⟩ = some (.string t336) := (blk_cell BK344.out 0).trans rfl; have hcz90_1 : w88.cell? ⟨gb344, 1, none⟩ = some (.string t337) := (blk_cell BK344.out 1).trans rfl; have hcz90_2 : w88.cell? ⟨gb344, 2, none⟩ = some (.int .i64 t338) := (blk_cell BK344.out 2).trans rfl; have hcz90_3 : w88.cell? ⟨gb344, 3, none⟩ = some (.bool true) := (blk_cell BK344.out 3).trans rfl; have hcz90_4 : w88.cell? ⟨gb344, 4, none⟩ = some (.int .i64 t340) := (blk_cell BK344.out 4).trans rfl; have hcz90_5 : w88.cell? ⟨gb344, 5, none⟩ = some (.int .i64 t341) := (blk_cell BK344.out 5).trans rfl; have hcz90_6 : w88.cell? ⟨gb344, 6, none⟩ = some (.int .i64 t342) := (blk_cell BK344.out 6).trans rfl; have hcz90_7 : w88.cell? ⟨gb344, 7, none⟩ = some (.int .i64 t343) := (blk_cell BK344.out 7).trans rfl; have hfz90_0 := blk_frozen BK344.out 0; have hfz90_1 := blk_frozen BK344.out 1; have hfz90_2 := blk_frozen BK344.out 2; have hfz90_3 := blk_frozen BK344.out 3; have hfz90_4 := blk_frozen BK344.out 4; have hfz90_5 := blk_frozen BK344.out 5; have hfz90_6 := blk_frozen BK344.out 6; have hfz90_7 := blk_frozen BK344.out 7; have hcz91_0 : w88.cell? ⟨gb355, 0, none⟩ = some (.string t346) := (blk_cell BK355.out 0).trans rfl; have hcz91_1 : w88.cell? ⟨gb355, 1, none⟩ = some (.string t347) := (blk_cell BK355.out 1).trans rfl; have hcz91_2 : w88.cell? ⟨gb355, 2, none⟩ = some (.int .i64 t348) := (blk_cell BK355.out 2).trans rfl; have hcz91_3 : w88.cell? ⟨gb355, 3, none⟩ = some (.bool t349) := (blk_cell BK355.out 3).trans rfl; have hcz91_4 : w88.cell? ⟨gb355, 4, none⟩ = some (.int .i64 t350) := (blk_cell BK355.out 4).trans rfl; have hcz91_5 : w88.cell? ⟨gb355, 5, none⟩ = some (.int .i64 t351) := (blk_cell BK355.out 5).trans rfl; have hcz91_6 : w88.cell? ⟨gb355, 6, none⟩ = some (.int .i64 t352) := (blk_cell BK355.out 6).trans rfl; have hcz91_7 : w88.cell? ⟨gb355, 7, none⟩ = some (.int .i64 t353) := (blk_cell BK355.out 7).trans rfl; have hfz91_0 := blk_frozen BK355.out 0; have hfz91_1 := blk_frozen BK355.out 1; have hfz91_2 := blk_frozen BK355.out 2; have hfz91_3 := blk_frozen BK355.out 3; have hfz91_4 := blk_frozen BK355.out 4; have hfz91_5 := blk_frozen BK355.out 5; have hfz91_6 := blk_frozen BK355.out 6; have hfz91_7 := blk_frozen BK355.out 7))
      go_ret
      exact ⟨ew, bwS⟩
     rw [if_neg c64] at H; have c64b0 := beq_eq_false_iff_ne.mpr c64; have c64b1 := bne_iff_ne.mpr c64; obtain rfl := Option.some.inj H; exact absurd HT.out (by decide)
    replace c63 := Bool.eq_false_iff.mpr c63; subst c63; rw [if_neg nft] at H; obtain rfl := Option.some.inj H; exact absurd HT.out (by decide)
   rw [if_neg c62] at H; have c62b0 := beq_eq_false_iff_ne.mpr c62; have c62b1 := bne_iff_ne.mpr c62; obtain rfl := Option.some.inj H; exact absurd HT.out (by decide)
  rw [if_neg c35] at H; have c35b0 := beq_eq_false_iff_ne.mpr c35; have c35b1 := bne_iff_ne.mpr c35; obtain rfl := Option.some.inj H; exact absurd HT.out (by decide)
 replace c8 := Bool.eq_false_iff.mpr c8; subst c8; rw [if_neg nft] at H; obtain rfl := Option.some.inj H; exact absurd HT.out (by decide)
set_option maxRecDepth 100000 in
theorem bulletinlaw33_works.at_ : bulletinlaw33_works.f 100 = some true := by decide +kernel
theorem bulletinlaw33_works.yes (k : Nat) (r : Bool) (h : bulletinlaw33_works.f k = some r) : r = true := by
 have up : ∀ (d a : Nat) (x : Bool), bulletinlaw33_works.f a = some x → bulletinlaw33_works.f (a + d) = some x := fun d => by
  induction d with
  | zero => intro a x h; exact h
  | succ d ih => intro a x h; exact bulletinlaw33_works.mono (a + d) x (ih a x h)
 have h1 := up 100 k r h; have h2 := up k 100 true bulletinlaw33_works.at_; rw [Nat.add_comm] at h1; rw [h1] at h2; exact Option.some.inj h2
theorem bulletinlaw33_works.calls (k : Nat) (r : Bool) (w : World) (hG : GlobT w) (h : bulletinlaw33_works.f k = some r) :
  Calls Tryz.prog 5 #[] w fun e w' => e = .returned (.bool r) ∧ Below w.heap.size w w' :=
 bulletinlaw33_works.callsT k r w hG h (bulletinlaw33_works.yes k r h)
end Go.Proofs.YtnnlhpmkfijppaaGreatDoor.Fn
set_option linter.unusedVariables false
set_option linter.unusedSimpArgs false
namespace Go.Proofs.YtnnlhpmkfijppaaGreatDoor.Pl
open Go.RowKit Go.Proofs.YtnnlhpmkfijppaaGreatDoorW.PrintWords Go.Proofs.YtnnlhpmkfijppaaGreatDoor.Fn

/-! Layer 33: a member. -/
set_option maxRecDepth 100000 in
theorem works33_at : bulletinlaw33_works.f 100 = some true := by decide +kernel
theorem works33 (k : Nat) (hk : 100 ≤ k) : bulletinlaw33_works.f k = some true := mono_up bulletinlaw33_works.mono works33_at k hk
def okN (n : Int) : Bool := decide (0 ≤ n) && decide (n ≤ 1099511627776)
theorem number_is (n : Int) : roster_number.f n = some (okN n) := by
 unfold roster_number.f okN
 by_cases h : n ≥ 0
 ·rw [if_pos h, decide_eq_true h, Bool.true_and]
 rw [if_neg h, decide_eq_false (show ¬ 0 ≤ n from h), Bool.false_and]
def wordM (n : Int) : Bytes := if n = 1 then [101, 97, 99, 104] else if n = 2 then [100, 105, 103, 101, 115, 116] else if n = 3 then [115, 105, 108, 101, 110, 116] else []
theorem word_is (n : Int) : roster_Word.f n = some (str (wordM n)) := by
 unfold roster_Word.f wordM
 split
 ·rfl
 split
 ·rfl
 split <;> rfl
def okM (n : Int) : Bool := decide (1 ≤ n) && decide (n ≤ 3)
theorem wordM_nil (n : Int) : (wordM n = []) = (okM n = false) := by
 unfold wordM okM
 rw [eq_iff_iff]
 by_cases h1 : n = 1
 ·subst h1; simp
 by_cases h2 : n = 2
 ·subst h2; simp
 by_cases h3 : n = 3
 ·subst h3; simp
 rw [if_neg h1, if_neg h2, if_neg h3]
 constructor
 ·intro _
  rw [Bool.and_eq_false_iff, decide_eq_false_iff_not, decide_eq_false_iff_not]
  omega
 intro _; rfl
def sound (a b : ByteArray) (mode score day ticket since : Int) : Bool := right a b && (okM mode && (okN score && ((okN day || decide (day = -1)) && (okN ticket && okN since))))
theorem sound_is (a b : ByteArray) (mode : Int) (off : Bool) (score day ticket since : Int) (ha : a.size ≤ 140737488355328) (hb : b.size ≤ 140737488355328) (k : Nat) (hk : 1000 ≤ k) :
  roster_Member_Sound.f k a b mode off score day ticket since = some (sound a b mode score day ticket since) := by
 unfold roster_Member_Sound.f sound
 rw [addrRight_big a b ha hb k hk, Option.bind_some, word_is, number_is, number_is, number_is, number_is]
 simp only [Option.bind_some]
 rw [toList_str]
 have hw := wordM_nil mode
 cases hm : okM mode with
 | false =>
  rw [if_pos (c := wordM mode = []) (hw.mpr hm)]
  cases right a b
  ·rfl
  rfl
 | true =>
  rw [if_neg (c := wordM mode = []) (by rw [hw, hm]; decide)]
  cases right a b
  ·rfl
  cases okN score
  ·rfl
  cases okN day
  ·by_cases h : day = -1
   ·cases okN ticket <;> simp [h]
   simp [h]
  cases okN ticket <;> rfl
end Go.Proofs.YtnnlhpmkfijppaaGreatDoor.Pl
namespace Go.Proofs.YtnnlhpmkfijppaaGreatDoor.Fn
open Go.RowKit Go.Proofs.YtnnlhpmkfijppaaGreatDoorW.PrintWords Go.Proofs.YtnnlhpmkfijppaaGreatDoorW.PrintLast Go.Proofs.YtnnlhpmkfijppaaGreatDoorW.PrintMore
attribute [local go_sem] max2_int min2_int max_two min_two max_three min_three max_four min_four
set_option linter.unusedVariables false
set_option linter.unusedSimpArgs false
def bulletinref06_Fold.l0 : Nat → ByteArray → ByteArray → Int → Option (ByteArray)
 | 0, _, _, _ => none
 | k + 1, x0, x3, x4 => if x4 < (x0.size : Int) then (if 0 ≤ x4 then (if (bt x0 x4) ≥ 65 then (if (bt x0 x4) ≤ 90 then ((some (([((bt x0 x4) + 32) % 256] : List Int) : List Int)).bind fun y376 => (if x3.size + (strOfNums y376).size ≤ 9223372036854775807 then (bulletinref06_Fold.l0 k x0 (x3 ++ (strOfNums y376)) (wrap64 (x4 + 1))) else (none))) else (if x4 ≤ (wrap64 (x4 + 1)) then (if (wrap64 (x4 + 1)) ≤ (x0.size : Int) then (if x3.size + (x0.extract (x4 : Int).toNat ((wrap64 (x4 + 1)) : Int).toNat).size ≤ 9223372036854775807 then (bulletinref06_Fold.l0 k x0 (x3 ++ (x0.extract (x4 : Int).toNat ((wrap64 (x4 + 1)) : Int).toNat)) (wrap64 (x4 + 1))) else (none)) else (none)) else (none))) else (if x4 ≤ (wrap64 (x4 + 1)) then (if (wrap64 (x4 + 1)) ≤ (x0.size : Int) then (if x3.size + (x0.extract (x4 : Int).toNat ((wrap64 (x4 + 1)) : Int).toNat).size ≤ 9223372036854775807 then (bulletinref06_Fold.l0 k x0 (x3 ++ (x0.extract (x4 : Int).toNat ((wrap64 (x4 + 1)) : Int).toNat)) (wrap64 (x4 + 1))) else (none)) else (none)) else (none))) else (none)) else (some x3)
def bulletinref06_Fold.f (k : Nat) (a0 : ByteArray) : Option (ByteArray) := bulletinref06_Fold.l0 k a0 (⟨#[]⟩ : ByteArray) 0
set_option maxHeartbeats 8000000 in
set_option maxRecDepth 100000 in
theorem bulletinref06_Fold.calls (k : Nat) (a0 : ByteArray) (r : ByteArray) (w : World) (h : bulletinref06_Fold.f k a0 = some r) :
  Calls Tryz.prog 62 #[.string a0] w fun e w' => e = .returned (.string r) ∧ Below w.heap.size w w' := by
 have HB := Aside0.mk (Below.refl w.heap.size w); have H : (bulletinref06_Fold.l0 k a0 (⟨#[]⟩ : ByteArray) 0) = some r := h; clear h; have H' := Aside0.mk H; clear H
 go_enter Tryz.func62, Tryz.ntmps62
 go_wp2
 go_loopg [3, 4] k (fun kq v3 v4 w' => ∃ (x3_1 : ByteArray) (x4_1 : Int), v3 = .string x3_1 ∧ v4 = .int .i64 x4_1 ∧ Aside0 (bulletinref06_Fold.l0 kq a0 x3_1 x4_1 = some r) ∧ Aside0 (kq ≤ k) ∧ Aside0 (Below w.heap.size w w'))
 case atStart => exact ⟨((⟨#[]⟩ : ByteArray)), (0), cl, cl, H', ⟨Nat.le_refl _⟩, ⟨bw⟩⟩
 case round =>
  clear H'; obtain ⟨x3_1, x4_1, rfl, rfl, HA, HK1, HB⟩ := hrel; cases gk with
  | zero => exact absurd HA.out (by simp [bulletinref06_Fold.l0])
  | succ k1 =>
   have H := HA.out; clear HA; simp only [bulletinref06_Fold.l0] at H
   by_cases c2 : x4_1 < (a0.size : Int)
   ·rw [if_pos c2] at H; have c2b0 := decide_eq_true c2; clear c2
    by_cases c3 : 0 ≤ x4_1
    ·rw [if_pos c3] at H; have c3b0 := decide_eq_true c3; clear c3
     by_cases c5 : (bt a0 x4_1) ≥ 65
     ·rw [if_pos c5] at H; have c5b0 : decide (65 ≤ (bt a0 x4_1)) = true := decide_eq_true c5; clear c5
      by_cases c7 : (bt a0 x4_1) ≤ 90
      ·rw [if_pos c7] at H; have c7b0 := decide_eq_true c7; clear c7; obtain ⟨y376, hy376⟩ : ∃ y_ : List Int, y_ = (([((bt a0 x4_1) + 32) % 256] : List Int)) := ⟨_, rfl⟩
       replace H : (if x3_1.size + (strOfNums y376).size ≤ 9223372036854775807 then (bulletinref06_Fold.l0 k1 a0 (x3_1 ++ (strOfNums y376)) (wrap64 (x4_1 + 1))) else (none)) = some r := by first | (rw [hy376]; with_reducible exact H) | (have H2_ := (Option.bind_some _ _).symm.trans H; rw [hy376]; with_reducible exact H2_) | (have H2_ := (Option.bind_some _ _).symm.trans H; with_reducible exact H2_) | with_reducible exact H | (rw [hy376]; exact H) | exact H
       have Ny376 := Aside0.mk hy376; clear hy376
       by_cases c9 : x3_1.size + (strOfNums y376).size ≤ 9223372036854775807
       ·rw [if_pos c9] at H; have c9b0 := eq_true c9; have c9b1 := decide_eq_true c9
        try have c9b2 : (9223372036854775807 < x3_1.size + (strOfNums y376).size) = False := eq_false (Nat.not_lt.2 c9)
        have H' := Aside0.mk H; clear H; have p4 : 0 ≤ (x4_1 : Int) := od; have q4 : x4_1 < (a0.size : Int) := od; have hx4 := bt_at a0 x4_1; replace p4 := eq_true p4; replace q4 := eq_true q4; have p6 : 0 ≤ (x4_1 : Int) := od; have q6 : x4_1 < (a0.size : Int) := od; have hx6 := bt_at a0 x4_1; replace p6 := eq_true p6; replace q6 := eq_true q6; have p8 : 0 ≤ (x4_1 : Int) := od; have q8 : x4_1 < (a0.size : Int) := od; have hx8 := bt_at a0 x4_1; replace p8 := eq_true p8; replace q8 := eq_true q8
        go_wp2_with (first | ((with_reducible refine gate_dst (N := 26) rfl ?_); refine Kd.R_lit (Kd.int .u8) _ 5 ?hg (N := 26) ?hd (xs := ([((bt a0 x4_1) + 32) % 256] : List Int)) (inner := [.int .u8 (((bt a0 x4_1) + 32) % 256)]) (ok := fun _ => True) (okp := fun _ => True) ?hr ?hp (fun _ hk => hk) trivial (Below.refl _ _) (Nat.le_refl _) (by simp) ?_; (case hd => rfl); (case hg => rfl); (case hr => first | (go_simp; done) | (go_simp; rfl)); (case hp => exact (Reps.one (show Kd.M (Kd.int .u8) _ _ _ (((bt a0 x4_1) + 32) % 256) [.int .u8 (((bt a0 x4_1) + 32) % 256)] from rfl) (Reps.none _ _))); intro v377 w10 ho11 hb hg_ hnew_; clear hg_ hnew_; (first | rw [← Ny376.out] at ho11 | (simp only [Int.reduceToNat] at ho11; rw [← Ny376.out] at ho11)); have n0_ := Aside0.mk (Kd.R_lower ho11 (below_size bw)); have n1_ := Aside0.mk (below_step bw hb); clear HB; have HO378 := n0_; have HB := n1_; clear n0_ n1_; clear hb ho11; have hcv12 := own_string (P := Tryz.prog) Tryz.underlying82 Tryz.underlying5 Tryz.underlying9 (Kd.own_of_R HO378.out)))
        go_roundg k1
        case measure => have := HK1.out; omega
        case rel => exact ⟨(x3_1 ++ (strOfNums y376)), (wrap64 (x4_1 + 1)), cl, cl, H', ⟨by have := HK1.out; omega⟩, ⟨bw⟩⟩
       rw [if_neg c9] at H; exact absurd H (by simp)
      rw [if_neg c7] at H; have c7b0 := decide_eq_false c7; clear c7; have c13b0 := eq_true (od : 0 ≤ x4_1)
      by_cases c14 : x4_1 ≤ (wrap64 (x4_1 + 1))
      ·rw [if_pos c14] at H; have c14b0 := eq_true c14; have c14b1 := decide_eq_true c14
       by_cases c15 : (wrap64 (x4_1 + 1)) ≤ (a0.size : Int)
       ·rw [if_pos c15] at H; have c15b0 := eq_true c15; have c15b1 := decide_eq_true c15
        by_cases c16 : x3_1.size + (a0.extract (x4_1 : Int).toNat ((wrap64 (x4_1 + 1)) : Int).toNat).size ≤ 9223372036854775807
        ·rw [if_pos c16] at H; have c16b0 := eq_true c16; have c16b1 := decide_eq_true c16
         try have c16b2 : (9223372036854775807 < x3_1.size + (a0.extract (x4_1 : Int).toNat ((wrap64 (x4_1 + 1)) : Int).toNat).size) = False := eq_false (Nat.not_lt.2 c16)
         try (have c16b3 := c16; simp only [ByteArray.size_append, size_lit, ByteArray.size_extract, List.size_toArray, List.length_cons, List.length_nil, Nat.zero_add, Nat.reduceAdd] at c16b3; have c16b4 := eq_false (Nat.not_lt.2 c16b3))
         have H' := Aside0.mk H; clear H; have p4 : 0 ≤ (x4_1 : Int) := od; have q4 : x4_1 < (a0.size : Int) := od; have hx4 := bt_at a0 x4_1; replace p4 := eq_true p4; replace q4 := eq_true q4; have p6 : 0 ≤ (x4_1 : Int) := od; have q6 : x4_1 < (a0.size : Int) := od; have hx6 := bt_at a0 x4_1; replace p6 := eq_true p6; replace q6 := eq_true q6
         go_wp2
         go_roundg k1
         case measure => have := HK1.out; omega
         case rel => exact ⟨(x3_1 ++ (a0.extract (x4_1 : Int).toNat ((wrap64 (x4_1 + 1)) : Int).toNat)), (wrap64 (x4_1 + 1)), cl, cl, H', ⟨by have := HK1.out; omega⟩, ⟨bw⟩⟩
        rw [if_neg c16] at H; exact absurd H (by simp)
       rw [if_neg c15] at H; exact absurd H (by simp)
      rw [if_neg c14] at H; exact absurd H (by simp)
     rw [if_neg c5] at H; have c5b0 : decide (65 ≤ (bt a0 x4_1)) = false := decide_eq_false c5; clear c5; have c17b0 := eq_true (od : 0 ≤ x4_1)
     by_cases c18 : x4_1 ≤ (wrap64 (x4_1 + 1))
     ·rw [if_pos c18] at H; have c18b0 := eq_true c18; have c18b1 := decide_eq_true c18
      by_cases c19 : (wrap64 (x4_1 + 1)) ≤ (a0.size : Int)
      ·rw [if_pos c19] at H; have c19b0 := eq_true c19; have c19b1 := decide_eq_true c19
       by_cases c20 : x3_1.size + (a0.extract (x4_1 : Int).toNat ((wrap64 (x4_1 + 1)) : Int).toNat).size ≤ 9223372036854775807
       ·rw [if_pos c20] at H; have c20b0 := eq_true c20; have c20b1 := decide_eq_true c20
        try have c20b2 : (9223372036854775807 < x3_1.size + (a0.extract (x4_1 : Int).toNat ((wrap64 (x4_1 + 1)) : Int).toNat).size) = False := eq_false (Nat.not_lt.2 c20)
        try (have c20b3 := c20; simp only [ByteArray.size_append, size_lit, ByteArray.size_extract, List.size_toArray, List.length_cons, List.length_nil, Nat.zero_add, Nat.reduceAdd] at c20b3; have c20b4 := eq_false (Nat.not_lt.2 c20b3))
        have H' := Aside0.mk H; clear H; have p4 : 0 ≤ (x4_1 : Int) := od; have q4 : x4_1 < (a0.size : Int) := od; have hx4 := bt_at a0 x4_1; replace p4 := eq_true p4; replace q4 := eq_true q4
        go_wp2
        go_roundg k1
        case measure => have := HK1.out; omega
        case rel => exact ⟨(x3_1 ++ (a0.extract (x4_1 : Int).toNat ((wrap64 (x4_1 + 1)) : Int).toNat)), (wrap64 (x4_1 + 1)), cl, cl, H', ⟨by have := HK1.out; omega⟩, ⟨bw⟩⟩
       rw [if_neg c20] at H; exact absurd H (by simp)
      rw [if_neg c19] at H; exact absurd H (by simp)
     rw [if_neg c18] at H; exact absurd H (by simp)
    rw [if_neg c3] at H; exact absurd H (by simp)
   rw [if_neg c2] at H; have c2b0 := decide_eq_false c2; clear c2; obtain rfl := Option.some.inj H
   go_wp2
   go_ret
   exact ⟨ew, bw⟩

def bulletinref13_Split.l0 : Nat → ByteArray → Int → List ByteArray → ByteArray → Int → Option (List ByteArray)
 | 0, _, _, _, _, _ => none
 | k + 1, x0, x1, x5, x6, x7 => if x7 < (x0.size : Int) then (if 0 ≤ x7 then (if (bt x0 x7) = x1 then (if x5.length < 8796093022208 then (bulletinref13_Split.l0 k x0 x1 (x5 ++ [x6]) (⟨#[]⟩ : ByteArray) (wrap64 (x7 + 1))) else (none)) else (if x7 ≤ (wrap64 (x7 + 1)) then (if (wrap64 (x7 + 1)) ≤ (x0.size : Int) then (if x6.size + (x0.extract (x7 : Int).toNat ((wrap64 (x7 + 1)) : Int).toNat).size ≤ 9223372036854775807 then (bulletinref13_Split.l0 k x0 x1 x5 (x6 ++ (x0.extract (x7 : Int).toNat ((wrap64 (x7 + 1)) : Int).toNat)) (wrap64 (x7 + 1))) else (none)) else (none)) else (none))) else (none)) else (if x5.length < 8796093022208 then (some (x5 ++ [x6])) else (none))
def bulletinref13_Split.f (k : Nat) (a0 : ByteArray) (a1 : Int) : Option (List ByteArray) := bulletinref13_Split.l0 k a0 a1 ([] : List ByteArray) (⟨#[]⟩ : ByteArray) 0
set_option maxHeartbeats 8000000 in
set_option maxRecDepth 100000 in
theorem bulletinref13_Split.calls (k : Nat) (a0 : ByteArray) (a1 : Int) (r : List ByteArray) (w : World) (h : bulletinref13_Split.f k a0 a1 = some r) :
  Calls Tryz.prog 70 #[.string a0, .int .u8 a1] w fun e w' => ∃ v0_ : Value, e = .returned (v0_) ∧ Kd.R Kd.string 9 w' w.heap.size (fun _ => True) v0_ r ∧ Below w.heap.size w w' := by
 have HB := Aside0.mk (Below.refl w.heap.size w); have H : (bulletinref13_Split.l0 k a0 a1 ([] : List ByteArray) (⟨#[]⟩ : ByteArray) 0) = some r := h; clear h; have H' := Aside0.mk H; clear H
 go_enter Tryz.func70, Tryz.ntmps70
 go_wp2
 go_loopg [5, 6, 7] k (fun kq v5 v6 v7 w' => ∃ (x5_1 : List ByteArray) (x6_1 : ByteArray) (x7_1 : Int), v6 = .string x6_1 ∧ v7 = .int .i64 x7_1 ∧ Aside0 (bulletinref13_Split.l0 kq a0 a1 x5_1 x6_1 x7_1 = some r) ∧ Aside0 (kq ≤ k) ∧ Aside0 (Kd.R Kd.string 9 w' w.heap.size (fun _ => True) v5 x5_1) ∧ Aside0 (Below w.heap.size w w'))
 case atStart => exact ⟨(([] : List ByteArray)), ((⟨#[]⟩ : ByteArray)), (0), cl, cl, H', ⟨Nat.le_refl _⟩, ⟨by first | exact Kd.R_nil _ _ _ _ _ | exact Kd.N_nil _ _ _ _ _ | exact Kd.V_nil _ _ _ _ _ | exact Kd.Q_nil _ _ _ _ _ | exact Kd.S_nil _ _ _ _ _⟩, ⟨bw⟩⟩
 case round =>
  clear H'
  try clear p2
  obtain ⟨x5_1, x6_1, x7_1, rfl, rfl, HA, HK1, HO_5, HB⟩ := hrel; cases gk with
  | zero => exact absurd HA.out (by simp [bulletinref13_Split.l0])
  | succ k1 =>
   have H := HA.out; clear HA; simp only [bulletinref13_Split.l0] at H
   by_cases c3 : x7_1 < (a0.size : Int)
   ·rw [if_pos c3] at H; have c3b0 := decide_eq_true c3; clear c3
    by_cases c4 : 0 ≤ x7_1
    ·rw [if_pos c4] at H; have c4b0 := decide_eq_true c4; clear c4
     by_cases c6 : (bt a0 x7_1) = a1
     ·rw [if_pos c6] at H; have c6b0 := beq_iff_eq.mpr c6; have c6b1 := bne_eq_false_iff_eq.mpr c6; clear c6
      by_cases c7 : x5_1.length < 8796093022208
      ·rw [if_pos c7] at H; have LMc7 := Aside0.mk c7; clear c7; obtain ⟨y358, hy358⟩ : ∃ y_ : List ByteArray, y_ = (x5_1 ++ [x6_1]) := ⟨_, rfl⟩
       replace H : (bulletinref13_Split.l0 k1 a0 a1 y358 (⟨#[]⟩ : ByteArray) (wrap64 (x7_1 + 1))) = some r := by first | (rw [hy358]; with_reducible exact H) | (have H2_ := (Option.bind_some _ _).symm.trans H; rw [hy358]; with_reducible exact H2_) | (have H2_ := (Option.bind_some _ _).symm.trans H; with_reducible exact H2_) | with_reducible exact H | (rw [hy358]; exact H) | exact H
       have Ny358 := Aside0.mk hy358; clear hy358; have H' := Aside0.mk H; clear H; have p5 : 0 ≤ (x7_1 : Int) := od; have q5 : x7_1 < (a0.size : Int) := od; have hx5 := bt_at a0 x7_1; replace p5 := eq_true p5; replace q5 := eq_true q5
       go_wp2_with (first | ((with_reducible refine gate_builtin (b := .append) (xs := #[.tmp 19, .tmp 21]) rfl ?_); at_builtin; refine Kd.R_append Kd.string (w0 := w) w.heap.size rfl (.tmp 19) (.tmp 21) 51 9 (.string ⟨#[]⟩) 16 rfl Tryz.underlying51 info9 rfl (by decide) (by omega) u5 x5_1 x6_1 [.string x6_1] (fun _ => True) (fun _ => False) rfl rfl ?aP (fun _ hk => hk.elim) ?aF ?aO ?aB ?aS ?aL ?_; (case aP => exact rfl); (case aB => exact bw); (case aF => exact (fun _ _ => trivial)); (case aO => exact (ra HO_5.out)); (case aS => exact (below_size bw)); (case aL => have := LMc7.out; omega); intro v359 w8 ho hb hg hat; rw [← Ny358.out] at ho; have n0_ := Aside0.mk (hb); have n1_ := Aside0.mk (ho); clear HB; clear HO_5; have HB := n0_; have HO360 := n1_; clear n0_ n1_; clear ho hb hg hat))
       go_roundg k1
       case measure => have := HK1.out; omega
       case rel => exact ⟨(y358), ((⟨#[]⟩ : ByteArray)), (wrap64 (x7_1 + 1)), cl, cl, H', ⟨by have := HK1.out; omega⟩, ⟨ra HO360.out⟩, ⟨bw⟩⟩
      rw [if_neg c7] at H; exact absurd H (by simp)
     rw [if_neg c6] at H; have c6b0 := beq_eq_false_iff_ne.mpr c6; have c6b1 := bne_iff_ne.mpr c6; have c9b0 := eq_true (od : 0 ≤ x7_1)
     by_cases c10 : x7_1 ≤ (wrap64 (x7_1 + 1))
     ·rw [if_pos c10] at H; have c10b0 := eq_true c10; have c10b1 := decide_eq_true c10
      by_cases c11 : (wrap64 (x7_1 + 1)) ≤ (a0.size : Int)
      ·rw [if_pos c11] at H; have c11b0 := eq_true c11; have c11b1 := decide_eq_true c11
       by_cases c12 : x6_1.size + (a0.extract (x7_1 : Int).toNat ((wrap64 (x7_1 + 1)) : Int).toNat).size ≤ 9223372036854775807
       ·rw [if_pos c12] at H; have c12b0 := eq_true c12; have c12b1 := decide_eq_true c12
        try have c12b2 : (9223372036854775807 < x6_1.size + (a0.extract (x7_1 : Int).toNat ((wrap64 (x7_1 + 1)) : Int).toNat).size) = False := eq_false (Nat.not_lt.2 c12)
        try (have c12b3 := c12; simp only [ByteArray.size_append, size_lit, ByteArray.size_extract, List.size_toArray, List.length_cons, List.length_nil, Nat.zero_add, Nat.reduceAdd] at c12b3; have c12b4 := eq_false (Nat.not_lt.2 c12b3))
        have H' := Aside0.mk H; clear H; have p5 : 0 ≤ (x7_1 : Int) := od; have q5 : x7_1 < (a0.size : Int) := od; have hx5 := bt_at a0 x7_1; replace p5 := eq_true p5; replace q5 := eq_true q5
        go_wp2
        go_roundg k1
        case measure => have := HK1.out; omega
        case rel => exact ⟨(x5_1), (x6_1 ++ (a0.extract (x7_1 : Int).toNat ((wrap64 (x7_1 + 1)) : Int).toNat)), (wrap64 (x7_1 + 1)), cl, cl, H', ⟨by have := HK1.out; omega⟩, ⟨ra HO_5.out⟩, ⟨bw⟩⟩
       rw [if_neg c12] at H; exact absurd H (by simp)
      rw [if_neg c11] at H; exact absurd H (by simp)
     rw [if_neg c10] at H; exact absurd H (by simp)
    rw [if_neg c4] at H; exact absurd H (by simp)
   rw [if_neg c3] at H; have c3b0 := decide_eq_false c3; clear c3
   by_cases c13 : x5_1.length < 8796093022208
   ·rw [if_pos c13] at H; have LMc13 := Aside0.mk c13; clear c13; obtain ⟨y361, hy361⟩ : ∃ y_ : List ByteArray, y_ = (x5_1 ++ [x6_1]) := ⟨_, rfl⟩
    replace H : (some y361) = some r := by first | (rw [hy361]; with_reducible exact H) | (have H2_ := (Option.bind_some _ _).symm.trans H; rw [hy361]; with_reducible exact H2_) | (have H2_ := (Option.bind_some _ _).symm.trans H; with_reducible exact H2_) | with_reducible exact H | (rw [hy361]; exact H) | exact H
    have Ny361 := Aside0.mk hy361; clear hy361; obtain rfl := Option.some.inj H
    go_wp2_with (first | ((with_reducible refine gate_builtin (b := .append) (xs := #[.tmp 30, .tmp 32]) rfl ?_); at_builtin; refine Kd.R_append Kd.string (w0 := w) w.heap.size rfl (.tmp 30) (.tmp 32) 51 9 (.string ⟨#[]⟩) 16 rfl Tryz.underlying51 info9 rfl (by decide) (by omega) u5 x5_1 x6_1 [.string x6_1] (fun _ => True) (fun _ => False) rfl rfl ?aP (fun _ hk => hk.elim) ?aF ?aO ?aB ?aS ?aL ?_; (case aP => exact rfl); (case aB => exact bw); (case aF => exact (fun _ _ => trivial)); (case aO => exact (ra HO_5.out)); (case aS => exact (below_size bw)); (case aL => have := LMc13.out; omega); intro v362 w14 ho hb hg hat; rw [← Ny361.out] at ho; have n0_ := Aside0.mk (hb); have n1_ := Aside0.mk (ho); clear HB; clear HO_5; have HB := n0_; have HO363 := n1_; clear n0_ n1_; clear ho hb hg hat))
    go_ret
    exact ⟨_, ew, ra HO363.out, bw⟩
   rw [if_neg c13] at H; exact absurd H (by simp)

end Go.Proofs.YtnnlhpmkfijppaaGreatDoor.Fn
