/- A part of the proof of this sentence: The law bulletinlaw13.AddrReads returns true for every input: the address that any bytes are, and that they are written the one right way, or why there is none, are as the document has them; the tables of unicode/utf8 are as the program's text lays them. -/
import Derived.Test.YtlomcmdbbnbciaaDoorCAddrReads3
-- written by xprint.py of this session over the kit's printer; not trusted: Lean checks it
namespace Go.Proofs.YtlomcmdbbnbciaaDoor.Fn
open Go.RowKit Go.Proofs.YtlomcmdbbnbciaaDoorW.PrintWords Go.Proofs.YtlomcmdbbnbciaaDoorW.PrintLast Go.Proofs.YtlomcmdbbnbciaaDoorW.PrintMore
attribute [local go_sem] max2_int min2_int max_two min_two max_three min_three max_four min_four   -- for this text's walks alone
set_option linter.unusedVariables false
set_option linter.unusedSimpArgs false

/-! ### bulletinref13_Of: function 88 -/
mutual
def bulletinref13_Of.l0 : Nat → List (S148) → Int → Int → Option (ByteArray × ByteArray × Int)
 | 0, _, _, _ => none
 | k + 1, x0, x4, x5 => if x5 < (x0.length : Int) then (if 0 ≤ x5 then (if ((rd_T148 x0 x5).f0) = 3 then (if ((rd_T148 x0 x5).f1).toList = ([64] : List UInt8) then (if x4 < 0 then (bulletinref13_Of.l0 k x0 x5 (wrap64 (x5 + 1))) else (bulletinref13_Of.l0 k x0 x4 (wrap64 (x5 + 1)))) else (bulletinref13_Of.l0 k x0 x4 (wrap64 (x5 + 1)))) else (bulletinref13_Of.l0 k x0 x4 (wrap64 (x5 + 1)))) else (none)) else (if x4 < 0 then (some ((⟨#[]⟩ : ByteArray), (⟨#[]⟩ : ByteArray), 130)) else (bulletinref13_Of.l1 k x0 x4 0 (⟨#[]⟩ : ByteArray) (⟨#[]⟩ : ByteArray)))
def bulletinref13_Of.l1 : Nat → List (S148) → Int → Int → ByteArray → ByteArray → Option (ByteArray × ByteArray × Int)
 | 0, _, _, _, _, _ => none
 | k + 1, x0, x4, x7, x436000, x436001 => if x7 < (x0.length : Int) then (if 0 ≤ x7 then (if x7 > x4 then (bulletinref13_Of.j2 k x0 x4 x7 (wrap64 ((wrap64 (x7 - x4)) - 1)) x436000 x436001 ((rd_T148 x0 x7).f0) ((rd_T148 x0 x7).f1)) else (bulletinref13_Of.j2 k x0 x4 x7 x7 x436000 x436001 ((rd_T148 x0 x7).f0) ((rd_T148 x0 x7).f1))) else (none)) else (if (Int.tmod x4 2) = 0 then (bulletinref13_Of.j5 k true x436000 x436001) else (bulletinref13_Of.j5 k ((Int.tmod (wrap64 ((wrap64 ((x0.length : Int) - x4)) - 1)) 2) == 0) x436000 x436001))
def bulletinref13_Of.j2 : Nat → List (S148) → Int → Int → Int → ByteArray → ByteArray → Int → ByteArray → Option (ByteArray × ByteArray × Int)
 | 0, _, _, _, _, _, _, _, _ => none
 | k + 1, x0, x4, x7, x9, x436000, x436001, x438000, x438001 => if x7 = x4 then (bulletinref13_Of.j3 k x0 x4 x7 x9 false x436000 x436001 x438000 x438001) else (if (Int.tmod x9 2) = 1 then (if x438000 = 3 then (bulletinref13_Of.j3 k x0 x4 x7 x9 (x438001.toList != ([46] : List UInt8)) x436000 x436001 x438000 x438001) else (bulletinref13_Of.j3 k x0 x4 x7 x9 true x436000 x436001 x438000 x438001)) else (bulletinref13_Of.j3 k x0 x4 x7 x9 false x436000 x436001 x438000 x438001))
def bulletinref13_Of.j3 : Nat → List (S148) → Int → Int → Int → Bool → ByteArray → ByteArray → Int → ByteArray → Option (ByteArray × ByteArray × Int)
 | 0, _, _, _, _, _, _, _, _, _ => none
 | k + 1, x0, x4, x7, x9, x75, x436000, x436001, x438000, x438001 => if x75 = true then (some ((⟨#[]⟩ : ByteArray), (⟨#[]⟩ : ByteArray), 130)) else (if x7 = x4 then (bulletinref13_Of.j4 k x0 x4 x7 false x436000 x436001 x438000 x438001) else (if (Int.tmod x9 2) = 0 then (if x438000 = 3 then (bulletinref13_Of.j4 k x0 x4 x7 true x436000 x436001 x438000 x438001) else (if x7 > x4 then (bulletinref13_Of.j4 k x0 x4 x7 (x438000 != 1) x436000 x436001 x438000 x438001) else (bulletinref13_Of.j4 k x0 x4 x7 false x436000 x436001 x438000 x438001))) else (bulletinref13_Of.j4 k x0 x4 x7 false x436000 x436001 x438000 x438001)))
def bulletinref13_Of.j4 : Nat → List (S148) → Int → Int → Bool → ByteArray → ByteArray → Int → ByteArray → Option (ByteArray × ByteArray × Int)
 | 0, _, _, _, _, _, _, _, _ => none
 | k + 1, x0, x4, x7, x99, x436000, x436001, x438000, x438001 => if x99 = true then (some ((⟨#[]⟩ : ByteArray), (⟨#[]⟩ : ByteArray), 130)) else (if x7 < x4 then (if x436000.size + x438001.size ≤ 9223372036854775807 then (if x7 > x4 then (if x436001.size + x438001.size ≤ 9223372036854775807 then (bulletinref13_Of.l1 k x0 x4 (wrap64 (x7 + 1)) (x436000 ++ x438001) (x436001 ++ x438001)) else (none)) else (bulletinref13_Of.l1 k x0 x4 (wrap64 (x7 + 1)) (x436000 ++ x438001) x436001)) else (none)) else (if x7 > x4 then (if x436001.size + x438001.size ≤ 9223372036854775807 then (bulletinref13_Of.l1 k x0 x4 (wrap64 (x7 + 1)) x436000 (x436001 ++ x438001)) else (none)) else (bulletinref13_Of.l1 k x0 x4 (wrap64 (x7 + 1)) x436000 x436001)))
def bulletinref13_Of.j5 : Nat → Bool → ByteArray → ByteArray → Option (ByteArray × ByteArray × Int)
 | 0, _, _, _ => none
 | k + 1, x130, x436000, x436001 => if x130 = true then (some ((⟨#[]⟩ : ByteArray), (⟨#[]⟩ : ByteArray), 130)) else ((bulletinref06_Fold.f k x436001).bind fun t438 => ((bulletinref13_Why.f k x436000 t438).bind fun t439 => (if t439 = 0 then (some (x436000, t438, 0)) else (some ((⟨#[]⟩ : ByteArray), (⟨#[]⟩ : ByteArray), t439)))))
end
def bulletinref13_Of.f (k : Nat) (l0 : List (S148)) : Option (ByteArray × ByteArray × Int) := bulletinref13_Of.l0 k l0 (-1) 0
set_option maxHeartbeats 8000000 in
set_option maxRecDepth 100000 in
theorem bulletinref13_Of.calls (k : Nat) (A0 : Option Addr) (c0 : Nat) (l0 : List (S148)) (r1 : ByteArray) (r2 : ByteArray) (r3 : Int) (w : World) (hr0 : Kd.C k148 w A0 l0.length l0) (hc0 : l0.length ≤ c0) (h : bulletinref13_Of.f k l0 = some (r1, r2, r3)) :
  Calls Tryd.prog 88 #[.slice A0 l0.length c0] w fun e w' => e = .returned (.tuple #[.agg #[.string r1, .string r2], .int .i64 r3]) ∧ Below w.heap.size w w' := by
 have hu31 := Tryd.underlying31
 have hu148 := Tryd.underlying148
 have HR0 := Aside0.mk hr0
 have HC0 := Aside0.mk hc0
 clear hr0 hc0
 have HB := Aside0.mk (Below.refl w.heap.size w)
 have H : (bulletinref13_Of.l0 k l0 (-1) 0) = some (r1, r2, r3) := h
 clear h
 have H' := Aside0.mk H
 clear H
 go_enter Tryd.func88, Tryd.ntmps88
 go_wp2_with (first | ((with_reducible refine gate_dst (N := 2) rfl ?_); (try (refine gate_guard (by rfl) ?_; dsimp only)); refine box_event ?hg (N := 2) ?hd (cs := #[.string (⟨#[]⟩ : ByteArray), .string (⟨#[]⟩ : ByteArray)]) (t := 31) ?hr ?_; (case hd => rfl); (case hg => rfl); (case hr => first | (go_simp; done) | (go_simp; rfl)); intro gb432 hg w2 hbox hb; have n0_ := Aside0.mk (below_step bw hb); have n1_ := Aside0.mk (hbox); have n2_ := Aside0.mk ((by rw [hg]; exact (below_size bw) : w.heap.size ≤ gb432)); have n3_ := Aside0.mk ((by rw [hg]; exact (below_size bw) : w.heap.size ≤ gb432)); clear HB; have HB := n0_; have BK432 := n1_; have GW432 := n2_; have GE432 := n3_; clear n0_ n1_ n2_ n3_; clear hb hbox hg))
 go_loopg [4, 5] k (fun kq v4 v5 w' => ∃ (x4_1 : Int) (x5_1 : Int), v4 = .int .i64 x4_1 ∧ v5 = .int .i64 x5_1 ∧ Aside0 (bulletinref13_Of.l0 kq l0 x4_1 x5_1 = some (r1, r2, r3)) ∧ Aside0 (kq ≤ k) ∧ Aside0 (w'.heap[gb432]? = some (.cells #[.string (⟨#[]⟩ : ByteArray), .string (⟨#[]⟩ : ByteArray)] 31 (0, 0))) ∧ Aside0 (Below w.heap.size w w'))
 case atStart => exact ⟨((-1)), (0), cl, cl, H', ⟨Nat.le_refl _⟩, ⟨by (with_reducible repeat (first | refine blk_drewN ?_ _ | refine blk_drew ?_ | refine blk_alloc ?_ _)); exact BK432.out⟩, ⟨by repeat (first | (with_reducible first | exact HB.out | apply below_alloc | apply pw_below_drewN | apply below_drew1 | refine below_set ?_ GE432.out) | exact HB.out)⟩⟩
 case round =>
  clear H'
  try clear p2
  obtain ⟨x4_1, x5_1, rfl, rfl, HA, HK1, BK432, HB⟩ := hrel
  cases gk with
  | zero => exact absurd HA.out (by simp [bulletinref13_Of.l0])
  | succ k1 =>
   have H := HA.out
   clear HA
   simp only [bulletinref13_Of.l0] at H
   by_cases c3 : x5_1 < (l0.length : Int)
   ·rw [if_pos c3] at H
    have c3b0 : decide (x5_1 < (l0.length : Int)) = true := decide_eq_true c3
    clear c3
    by_cases c4 : 0 ≤ x5_1
    ·rw [if_pos c4] at H
     have c4b0 : decide (0 ≤ x5_1) = true := decide_eq_true c4
     clear c4
     by_cases c5 : ((rd_T148 l0 x5_1).f0) = 3
     ·rw [if_pos c5] at H
      have c5b0 : (((rd_T148 l0 x5_1).f0) == 3) = true := beq_iff_eq.mpr c5
      have c5b1 : (((rd_T148 l0 x5_1).f0) != 3) = false := bne_eq_false_iff_eq.mpr c5
      clear c5
      by_cases c6 : ((rd_T148 l0 x5_1).f1).toList = ([64] : List UInt8)
      ·rw [if_pos c6] at H
       have c6b0 : (((rd_T148 l0 x5_1).f1).toList == ([64] : List UInt8)) = true := beq_iff_eq.mpr c6
       have c6b1 : (((rd_T148 l0 x5_1).f1).toList != ([64] : List UInt8)) = false := bne_eq_false_iff_eq.mpr c6
       clear c6
       by_cases c7 : x4_1 < 0
       ·rw [if_pos c7] at H
        have c7b0 : decide (x4_1 < 0) = true := decide_eq_true c7
        clear c7
        have H' := Aside0.mk H
        clear H
        have p433 : 0 ≤ (x5_1 : Int) := od
        have q433 : x5_1 < (l0.length : Int) := od
        obtain ⟨ad433, e433, hx433_0, hx433_1⟩ := at_T148 HR0.out x5_1 p433 q433
        cases e433
        replace hx433_0 := (HB.out.cell (World.block_lt_of_cell? w _ hx433_0)).trans hx433_0
        replace hx433_1 := (HB.out.cell (World.block_lt_of_cell? w _ hx433_1)).trans hx433_1
        replace p433 := eq_true p433
        replace q433 := eq_true q433
        have p434 : 0 ≤ (x5_1 : Int) := od
        have q434 : x5_1 < (l0.length : Int) := od
        obtain ⟨ad434, e434, hx434_0, hx434_1⟩ := at_T148 HR0.out x5_1 p434 q434
        obtain rfl : ad433 = ad434 := (by injection e434)
        replace hx434_0 := (HB.out.cell (World.block_lt_of_cell? w _ hx434_0)).trans hx434_0
        replace hx434_1 := (HB.out.cell (World.block_lt_of_cell? w _ hx434_1)).trans hx434_1
        replace p434 := eq_true p434
        replace q434 := eq_true q434
        as_aux_lemma =>
         go_wp2
         go_roundg k1
         case measure => have := HK1.out; omega
         case rel => exact ⟨(x5_1), (wrap64 (x5_1 + 1)), cl, cl, H', ⟨by have := HK1.out; omega⟩, ⟨by (with_reducible repeat (first | refine blk_drewN ?_ _ | refine blk_drew ?_ | refine blk_alloc ?_ _)); exact BK432.out⟩, ⟨by repeat (first | (with_reducible first | exact HB.out | apply below_alloc | apply pw_below_drewN | apply below_drew1 | refine below_set ?_ GE432.out) | exact HB.out)⟩⟩
       ·rw [if_neg c7] at H
        have c7b0 : decide (x4_1 < 0) = false := decide_eq_false c7
        clear c7
        have H' := Aside0.mk H
        clear H
        have p433 : 0 ≤ (x5_1 : Int) := od
        have q433 : x5_1 < (l0.length : Int) := od
        obtain ⟨ad433, e433, hx433_0, hx433_1⟩ := at_T148 HR0.out x5_1 p433 q433
        cases e433
        replace hx433_0 := (HB.out.cell (World.block_lt_of_cell? w _ hx433_0)).trans hx433_0
        replace hx433_1 := (HB.out.cell (World.block_lt_of_cell? w _ hx433_1)).trans hx433_1
        replace p433 := eq_true p433
        replace q433 := eq_true q433
        have p434 : 0 ≤ (x5_1 : Int) := od
        have q434 : x5_1 < (l0.length : Int) := od
        obtain ⟨ad434, e434, hx434_0, hx434_1⟩ := at_T148 HR0.out x5_1 p434 q434
        obtain rfl : ad433 = ad434 := (by injection e434)
        replace hx434_0 := (HB.out.cell (World.block_lt_of_cell? w _ hx434_0)).trans hx434_0
        replace hx434_1 := (HB.out.cell (World.block_lt_of_cell? w _ hx434_1)).trans hx434_1
        replace p434 := eq_true p434
        replace q434 := eq_true q434
        as_aux_lemma =>
         go_wp2
         go_roundg k1
         case measure => have := HK1.out; omega
         case rel => exact ⟨(x4_1), (wrap64 (x5_1 + 1)), cl, cl, H', ⟨by have := HK1.out; omega⟩, ⟨by (with_reducible repeat (first | refine blk_drewN ?_ _ | refine blk_drew ?_ | refine blk_alloc ?_ _)); exact BK432.out⟩, ⟨by repeat (first | (with_reducible first | exact HB.out | apply below_alloc | apply pw_below_drewN | apply below_drew1 | refine below_set ?_ GE432.out) | exact HB.out)⟩⟩
      ·rw [if_neg c6] at H
       have c6b0 : (((rd_T148 l0 x5_1).f1).toList == ([64] : List UInt8)) = false := beq_eq_false_iff_ne.mpr c6
       have c6b1 : (((rd_T148 l0 x5_1).f1).toList != ([64] : List UInt8)) = true := bne_iff_ne.mpr c6
       have H' := Aside0.mk H
       clear H
       have p433 : 0 ≤ (x5_1 : Int) := od
       have q433 : x5_1 < (l0.length : Int) := od
       obtain ⟨ad433, e433, hx433_0, hx433_1⟩ := at_T148 HR0.out x5_1 p433 q433
       cases e433
       replace hx433_0 := (HB.out.cell (World.block_lt_of_cell? w _ hx433_0)).trans hx433_0
       replace hx433_1 := (HB.out.cell (World.block_lt_of_cell? w _ hx433_1)).trans hx433_1
       replace p433 := eq_true p433
       replace q433 := eq_true q433
       have p434 : 0 ≤ (x5_1 : Int) := od
       have q434 : x5_1 < (l0.length : Int) := od
       obtain ⟨ad434, e434, hx434_0, hx434_1⟩ := at_T148 HR0.out x5_1 p434 q434
       obtain rfl : ad433 = ad434 := (by injection e434)
       replace hx434_0 := (HB.out.cell (World.block_lt_of_cell? w _ hx434_0)).trans hx434_0
       replace hx434_1 := (HB.out.cell (World.block_lt_of_cell? w _ hx434_1)).trans hx434_1
       replace p434 := eq_true p434
       replace q434 := eq_true q434
       as_aux_lemma =>
        go_wp2
        go_roundg k1
        case measure => have := HK1.out; omega
        case rel => exact ⟨(x4_1), (wrap64 (x5_1 + 1)), cl, cl, H', ⟨by have := HK1.out; omega⟩, ⟨by (with_reducible repeat (first | refine blk_drewN ?_ _ | refine blk_drew ?_ | refine blk_alloc ?_ _)); exact BK432.out⟩, ⟨by repeat (first | (with_reducible first | exact HB.out | apply below_alloc | apply pw_below_drewN | apply below_drew1 | refine below_set ?_ GE432.out) | exact HB.out)⟩⟩
     ·rw [if_neg c5] at H
      have c5b0 : (((rd_T148 l0 x5_1).f0) == 3) = false := beq_eq_false_iff_ne.mpr c5
      have c5b1 : (((rd_T148 l0 x5_1).f0) != 3) = true := bne_iff_ne.mpr c5
      have H' := Aside0.mk H
      clear H
      have p433 : 0 ≤ (x5_1 : Int) := od
      have q433 : x5_1 < (l0.length : Int) := od
      obtain ⟨ad433, e433, hx433_0, hx433_1⟩ := at_T148 HR0.out x5_1 p433 q433
      cases e433
      replace hx433_0 := (HB.out.cell (World.block_lt_of_cell? w _ hx433_0)).trans hx433_0
      replace hx433_1 := (HB.out.cell (World.block_lt_of_cell? w _ hx433_1)).trans hx433_1
      replace p433 := eq_true p433
      replace q433 := eq_true q433
      as_aux_lemma =>
       go_wp2
       go_roundg k1
       case measure => have := HK1.out; omega
       case rel => exact ⟨(x4_1), (wrap64 (x5_1 + 1)), cl, cl, H', ⟨by have := HK1.out; omega⟩, ⟨by (with_reducible repeat (first | refine blk_drewN ?_ _ | refine blk_drew ?_ | refine blk_alloc ?_ _)); exact BK432.out⟩, ⟨by repeat (first | (with_reducible first | exact HB.out | apply below_alloc | apply pw_below_drewN | apply below_drew1 | refine below_set ?_ GE432.out) | exact HB.out)⟩⟩
    ·rw [if_neg c4] at H
     exact absurd H (by simp)
   ·rw [if_neg c3] at H
    have c3b0 : decide (x5_1 < (l0.length : Int)) = false := decide_eq_false c3
    clear c3
    by_cases c8 : x4_1 < 0
    ·rw [if_pos c8] at H
     have c8b0 : decide (x4_1 < 0) = true := decide_eq_true c8
     clear c8
     simp only [Option.some.injEq, Prod.mk.injEq] at H
     obtain ⟨rfl, rfl, rfl⟩ := H
     have hcz9_0 : wr.cell? ⟨gb432, 0, none⟩ = some (.string (⟨#[]⟩ : ByteArray)) := (blk_cell BK432.out 0).trans rfl
     have hcz9_1 : wr.cell? ⟨gb432, 1, none⟩ = some (.string (⟨#[]⟩ : ByteArray)) := (blk_cell BK432.out 1).trans rfl
     have hfz9_0 := blk_frozen BK432.out 0
     have hfz9_1 := blk_frozen BK432.out 1
     as_aux_lemma =>
      go_wp2
      refine bodyPost_ret (results_ct rfl _ _ gb432 31 #[.string (⟨#[]⟩ : ByteArray), .string (⟨#[]⟩ : ByteArray)] (0, 0) _ rfl (by (with_reducible repeat (first | refine blk_drewN ?_ _ | refine blk_drew ?_ | refine blk_alloc ?_ _)); refine blk_put (cs := #[.string (⟨#[]⟩ : ByteArray), .string (⟨#[]⟩ : ByteArray)]) ?_ 1 _ rfl; (with_reducible repeat (first | refine blk_drewN ?_ _ | refine blk_drew ?_ | refine blk_alloc ?_ _)); refine blk_put (cs := #[.string (⟨#[]⟩ : ByteArray), .string (⟨#[]⟩ : ByteArray)]) ?_ 0 _ rfl; (with_reducible repeat (first | refine blk_drewN ?_ _ | refine blk_drew ?_ | refine blk_alloc ?_ _)); exact BK432.out) Tryd.underlying31 rfl (by kernel_rfl)) rfl ?_
      exact ⟨by first | rfl | (simp [errW_none, errW_some] <;> rfl) | (simp [*, errW_none, errW_some] <;> rfl), by repeat (first | (with_reducible first | exact HB.out | apply below_alloc | apply pw_below_drewN | apply below_drew1 | refine below_set ?_ GE432.out) | exact HB.out)⟩
    ·rw [if_neg c8] at H
     have c8b0 : decide (x4_1 < 0) = false := decide_eq_false c8
     clear c8
     have H' := Aside0.mk H
     clear H
     as_aux_lemma =>
      go_wp2_with (first | ((with_reducible refine gate_dst (N := 6) rfl ?_); (try (refine gate_guard (by rfl) ?_; dsimp only)); refine box_event ?hg (N := 6) ?hd (cs := #[.string (⟨#[]⟩ : ByteArray), .string (⟨#[]⟩ : ByteArray)]) (t := 31) ?hr ?_; (case hd => rfl); (case hg => rfl); (case hr => first | (go_simp; done) | (go_simp; rfl)); intro gb435 hg w10 hbox hb; have n0_ := Aside0.mk (blk_below (g := gb432) (o := .cells #[.string (⟨#[]⟩ : ByteArray), .string (⟨#[]⟩ : ByteArray)] 31 (0, 0)) bk hb); have n1_ := Aside0.mk (below_step bwS hb); have n2_ := Aside0.mk (hbox); have n3_ := Aside0.mk ((by rw [hg]; exact (below_size bwS) : w.heap.size ≤ gb435)); have n4_ := Aside0.mk ((by rw [hg]; exact (below_size bwS) : w.heap.size ≤ gb435)); have n5_ := Aside0.mk ((by rw [hg]; exact Nat.ne_of_lt (blk_lt (g := gb432) (o := .cells #[.string (⟨#[]⟩ : ByteArray), .string (⟨#[]⟩ : ByteArray)] 31 (0, 0)) bk) : gb432 ≠ gb435)); have n6_ := Aside0.mk ((by rw [hg]; exact Nat.ne_of_gt (blk_lt (g := gb432) (o := .cells #[.string (⟨#[]⟩ : ByteArray), .string (⟨#[]⟩ : ByteArray)] 31 (0, 0)) bk) : gb435 ≠ gb432)); clear BK432; clear HB; have BK432 := n0_; have HB := n1_; have BK435 := n2_; have GW435 := n3_; have GE435 := n4_; have NB432_435 := n5_; have NB435_432 := n6_; clear n0_ n1_ n2_ n3_ n4_ n5_ n6_; clear hb hbox hg; have hnb11 := NB435_432.out; have hnc11 := NB432_435.out; have hcz12_0 : w10.cell? ⟨gb435, 0, none⟩ = some (.string (⟨#[]⟩ : ByteArray)) := (blk_cell BK435.out 0).trans rfl; have hcz12_1 : w10.cell? ⟨gb435, 1, none⟩ = some (.string (⟨#[]⟩ : ByteArray)) := (blk_cell BK435.out 1).trans rfl; have hfz12_0 := blk_frozen BK435.out 0; have hfz12_1 := blk_frozen BK435.out 1))
      go_loopg [7] k1 (fun kq v7 w' => ∃ (x7_2 : Int) (x433000_2 : ByteArray) (x433001_2 : ByteArray) (x436000_2 : ByteArray) (x436001_2 : ByteArray), v7 = .int .i64 x7_2 ∧ Aside0 (bulletinref13_Of.l1 kq l0 x4_1 x7_2 x436000_2 x436001_2 = some (r1, r2, r3)) ∧ Aside0 (kq ≤ k1) ∧ Aside0 (w'.heap[gb432]? = some (.cells #[.string x433000_2, .string x433001_2] 31 (0, 0))) ∧ Aside0 (w'.heap[gb435]? = some (.cells #[.string x436000_2, .string x436001_2] 31 (0, 0))) ∧ Aside0 (Below w.heap.size w w'))
      case atStart => exact ⟨(0), ((⟨#[]⟩ : ByteArray)), ((⟨#[]⟩ : ByteArray)), ((⟨#[]⟩ : ByteArray)), ((⟨#[]⟩ : ByteArray)), cl, H', ⟨Nat.le_refl _⟩, ⟨by (with_reducible repeat (first | refine blk_drewN ?_ _ | refine blk_drew ?_ | refine blk_alloc ?_ _)); refine blk_far ?_ NB432_435.out _; (with_reducible repeat (first | refine blk_drewN ?_ _ | refine blk_drew ?_ | refine blk_alloc ?_ _)); refine blk_far ?_ NB432_435.out _; (with_reducible repeat (first | refine blk_drewN ?_ _ | refine blk_drew ?_ | refine blk_alloc ?_ _)); exact BK432.out⟩, ⟨by (with_reducible repeat (first | refine blk_drewN ?_ _ | refine blk_drew ?_ | refine blk_alloc ?_ _)); refine blk_put (cs := #[.string (⟨#[]⟩ : ByteArray), .string (⟨#[]⟩ : ByteArray)]) ?_ 1 _ rfl; (with_reducible repeat (first | refine blk_drewN ?_ _ | refine blk_drew ?_ | refine blk_alloc ?_ _)); refine blk_put (cs := #[.string (⟨#[]⟩ : ByteArray), .string (⟨#[]⟩ : ByteArray)]) ?_ 0 _ rfl; (with_reducible repeat (first | refine blk_drewN ?_ _ | refine blk_drew ?_ | refine blk_alloc ?_ _)); exact BK435.out⟩, ⟨by repeat (first | (with_reducible first | exact HB.out | apply below_alloc | apply pw_below_drewN | apply below_drew1 | refine below_set ?_ GE432.out | refine below_set ?_ GE435.out) | exact HB.out)⟩⟩
      case round =>
       clear H'
       try clear c1
       try clear p2
       try clear c3
       try clear c3b0
       try clear c4
       try clear c4b0
       try clear p4
       try clear q4
       try clear hx4
       try clear c5
       try clear c5b0
       try clear c5b1
       try clear c6
       try clear c6b0
       try clear c6b1
       try clear p6
       try clear c7
       try clear c7b0
       try clear c8
       try clear c8b0
       try clear c11
       try clear hcz12_0
       try clear hcz12_1
       try clear hcz9_0
       try clear hcz9_1
       try clear hfz12_0
       try clear hfz12_1
       try clear hfz9_0
       try clear hfz9_1
       try clear hx433_0
       try clear hx433_1
       try clear hx434_0
       try clear hx434_1
       try clear p2
       try clear p433
       try clear p434
       try clear q433
       try clear q434
       obtain ⟨x7_2, x433000_2, x433001_2, x436000_2, x436001_2, rfl, HA, HK2, BK432, BK435, HB⟩ := hrel
       cases gk with
       | zero => exact absurd HA.out (by simp [bulletinref13_Of.l1])
       | succ k2 =>
        have H := HA.out
        clear HA
        simp only [bulletinref13_Of.l1] at H
        by_cases c13 : x7_2 < (l0.length : Int)
        ·rw [if_pos c13] at H
         have c13b0 : decide (x7_2 < (l0.length : Int)) = true := decide_eq_true c13
         clear c13
         by_cases c14 : 0 ≤ x7_2
         ·rw [if_pos c14] at H
          have c14b0 : decide (0 ≤ x7_2) = true := decide_eq_true c14
          clear c14
          have HC15 := Aside0.mk H
          clear H
          have p436 : 0 ≤ (x7_2 : Int) := od
          have q436 : x7_2 < (l0.length : Int) := od
          obtain ⟨ad436, e436, hx436_0, hx436_1⟩ := at_T148 HR0.out x7_2 p436 q436
          cases e436
          replace hx436_0 := (HB.out.cell (World.block_lt_of_cell? w _ hx436_0)).trans hx436_0
          replace hx436_1 := (HB.out.cell (World.block_lt_of_cell? w _ hx436_1)).trans hx436_1
          replace p436 := eq_true p436
          replace q436 := eq_true q436
          go_upto_if 53 with (first | ((with_reducible refine gate_dst (N := 8) rfl ?_); (try (refine gate_guard (by rfl) ?_; dsimp only)); refine box_event ?hg (N := 8) ?hd (cs := #[.int .i64 0, .string (⟨#[]⟩ : ByteArray)]) (t := 148) ?hr ?_; (case hd => rfl); (case hg => rfl); (case hr => first | (go_simp; done) | (go_simp; rfl)); intro gb437 hg w16 hbox hb; have n0_ := Aside0.mk (blk_below (g := gb432) (o := .cells #[.string x433000_2, .string x433001_2] 31 (0, 0)) bk hb); have n1_ := Aside0.mk (blk_below (g := gb435) (o := .cells #[.string x436000_2, .string x436001_2] 31 (0, 0)) bk hb); have n2_ := Aside0.mk (below_step (by repeat (first | (with_reducible first | exact HB.out | apply below_alloc | apply pw_below_drewN | apply below_drew1 | refine below_set ?_ GE432.out | refine below_set ?_ GE435.out) | exact HB.out)) hb); have n3_ := Aside0.mk (hbox); have n4_ := Aside0.mk ((by rw [hg]; exact (below_size (by repeat (first | (with_reducible first | exact HB.out | apply below_alloc | apply pw_below_drewN | apply below_drew1 | refine below_set ?_ GE432.out | refine below_set ?_ GE435.out) | exact HB.out))) : w.heap.size ≤ gb437)); have n5_ := Aside0.mk ((by rw [hg]; exact (below_size (by repeat (first | (with_reducible first | exact HB.out | apply below_alloc | apply pw_below_drewN | apply below_drew1 | refine below_set ?_ GE432.out | refine below_set ?_ GE435.out) | exact HB.out))) : w.heap.size ≤ gb437)); have n6_ := Aside0.mk ((by rw [hg]; exact Nat.ne_of_lt (blk_lt (g := gb432) (o := .cells #[.string x433000_2, .string x433001_2] 31 (0, 0)) bk) : gb432 ≠ gb437)); have n7_ := Aside0.mk ((by rw [hg]; exact Nat.ne_of_gt (blk_lt (g := gb432) (o := .cells #[.string x433000_2, .string x433001_2] 31 (0, 0)) bk) : gb437 ≠ gb432)); have n8_ := Aside0.mk ((by rw [hg]; exact Nat.ne_of_lt (blk_lt (g := gb435) (o := .cells #[.string x436000_2, .string x436001_2] 31 (0, 0)) bk) : gb435 ≠ gb437)); have n9_ := Aside0.mk ((by rw [hg]; exact Nat.ne_of_gt (blk_lt (g := gb435) (o := .cells #[.string x436000_2, .string x436001_2] 31 (0, 0)) bk) : gb437 ≠ gb435)); clear BK432; clear BK435; clear HB; have BK432 := n0_; have BK435 := n1_; have HB := n2_; have BK437 := n3_; have GW437 := n4_; have GE437 := n5_; have NB432_437 := n6_; have NB437_432 := n7_; have NB435_437 := n8_; have NB437_435 := n9_; clear n0_ n1_ n2_ n3_ n4_ n5_ n6_ n7_ n8_ n9_; clear hb hbox hg; have hnb17 := NB437_432.out; have hnc17 := NB432_437.out; have hnb18 := NB437_435.out; have hnc18 := NB435_437.out; have hcz19_0 : w16.cell? ⟨gb437, 0, none⟩ = some (.int .i64 0) := (blk_cell BK437.out 0).trans rfl; have hcz19_1 : w16.cell? ⟨gb437, 1, none⟩ = some (.string (⟨#[]⟩ : ByteArray)) := (blk_cell BK437.out 1).trans rfl; have hfz19_0 := blk_frozen BK437.out 0; have hfz19_1 := blk_frozen BK437.out 1))
          (try simp only [Act.put, List.setIfInBounds_toArray, List.set_cons_zero, List.set_cons_succ])
          go_cut [9] (fun v9 wc => ∃ (kq : Nat) (x9_14 : Int), v9 = .int .i64 x9_14 ∧ Aside0 (bulletinref13_Of.j2 kq l0 x4_1 x7_2 x9_14 x436000_2 x436001_2 ((rd_T148 l0 x7_2).f0) ((rd_T148 l0 x7_2).f1) = some (r1, r2, r3)) ∧ Aside0 (kq ≤ k2) ∧ Aside0 (wc.heap[gb432]? = some (.cells #[.string x433000_2, .string x433001_2] 31 (0, 0))) ∧ Aside0 (wc.heap[gb435]? = some (.cells #[.string x436000_2, .string x436001_2] 31 (0, 0))) ∧ Aside0 (wc.heap[gb437]? = some (.cells #[.int .i64 ((rd_T148 l0 x7_2).f0), .string ((rd_T148 l0 x7_2).f1)] 148 (0, 0))) ∧ Aside0 (Below w.heap.size w wc))
          case first =>
           have H := HC15.out
           clear HC15
           by_cases c20 : x7_2 > x4_1
           ·rw [if_pos c20] at H
            have c20b0 : decide (x4_1 < x7_2) = true := decide_eq_true c20
            clear c20
            (first | rw [c20b0] | (simp only [i64_w, i32_w]; rw [c20b0]) | skip)
            have H' := Aside0.mk H
            clear H
            as_aux_lemma =>
             go_wp2
             go_meet
             case rel => exact ⟨_, (wrap64 ((wrap64 (x7_2 - x4_1)) - 1)), cl, H', ⟨by have := HK1.out; have := HK2.out; first | omega | exact Nat.le_refl _⟩, ⟨by (with_reducible repeat (first | refine blk_drewN ?_ _ | refine blk_drew ?_ | refine blk_alloc ?_ _)); refine blk_far ?_ NB432_437.out _; (with_reducible repeat (first | refine blk_drewN ?_ _ | refine blk_drew ?_ | refine blk_alloc ?_ _)); refine blk_far ?_ NB432_437.out _; (with_reducible repeat (first | refine blk_drewN ?_ _ | refine blk_drew ?_ | refine blk_alloc ?_ _)); exact BK432.out⟩, ⟨by (with_reducible repeat (first | refine blk_drewN ?_ _ | refine blk_drew ?_ | refine blk_alloc ?_ _)); refine blk_far ?_ NB435_437.out _; (with_reducible repeat (first | refine blk_drewN ?_ _ | refine blk_drew ?_ | refine blk_alloc ?_ _)); refine blk_far ?_ NB435_437.out _; (with_reducible repeat (first | refine blk_drewN ?_ _ | refine blk_drew ?_ | refine blk_alloc ?_ _)); exact BK435.out⟩, ⟨by (with_reducible repeat (first | refine blk_drewN ?_ _ | refine blk_drew ?_ | refine blk_alloc ?_ _)); refine blk_put (cs := #[.int .i64 ((rd_T148 l0 x7_2).f0), .string (⟨#[]⟩ : ByteArray)]) ?_ 1 _ rfl; (with_reducible repeat (first | refine blk_drewN ?_ _ | refine blk_drew ?_ | refine blk_alloc ?_ _)); refine blk_put (cs := #[.int .i64 0, .string (⟨#[]⟩ : ByteArray)]) ?_ 0 _ rfl; (with_reducible repeat (first | refine blk_drewN ?_ _ | refine blk_drew ?_ | refine blk_alloc ?_ _)); exact BK437.out⟩, ⟨by repeat (first | (with_reducible first | exact HB.out | apply below_alloc | apply pw_below_drewN | apply below_drew1 | refine below_set ?_ GE432.out | refine below_set ?_ GE435.out | refine below_set ?_ GE437.out) | exact HB.out)⟩⟩
           ·rw [if_neg c20] at H
            have c20b0 : decide (x4_1 < x7_2) = false := decide_eq_false c20
            clear c20
            (first | rw [c20b0] | (simp only [i64_w, i32_w]; rw [c20b0]) | skip)
            have H' := Aside0.mk H
            clear H
            as_aux_lemma =>
             go_wp2
             go_meet
             case rel => exact ⟨_, (x7_2), cl, H', ⟨by have := HK1.out; have := HK2.out; first | omega | exact Nat.le_refl _⟩, ⟨by (with_reducible repeat (first | refine blk_drewN ?_ _ | refine blk_drew ?_ | refine blk_alloc ?_ _)); refine blk_far ?_ NB432_437.out _; (with_reducible repeat (first | refine blk_drewN ?_ _ | refine blk_drew ?_ | refine blk_alloc ?_ _)); refine blk_far ?_ NB432_437.out _; (with_reducible repeat (first | refine blk_drewN ?_ _ | refine blk_drew ?_ | refine blk_alloc ?_ _)); exact BK432.out⟩, ⟨by (with_reducible repeat (first | refine blk_drewN ?_ _ | refine blk_drew ?_ | refine blk_alloc ?_ _)); refine blk_far ?_ NB435_437.out _; (with_reducible repeat (first | refine blk_drewN ?_ _ | refine blk_drew ?_ | refine blk_alloc ?_ _)); refine blk_far ?_ NB435_437.out _; (with_reducible repeat (first | refine blk_drewN ?_ _ | refine blk_drew ?_ | refine blk_alloc ?_ _)); exact BK435.out⟩, ⟨by (with_reducible repeat (first | refine blk_drewN ?_ _ | refine blk_drew ?_ | refine blk_alloc ?_ _)); refine blk_put (cs := #[.int .i64 ((rd_T148 l0 x7_2).f0), .string (⟨#[]⟩ : ByteArray)]) ?_ 1 _ rfl; (with_reducible repeat (first | refine blk_drewN ?_ _ | refine blk_drew ?_ | refine blk_alloc ?_ _)); refine blk_put (cs := #[.int .i64 0, .string (⟨#[]⟩ : ByteArray)]) ?_ 0 _ rfl; (with_reducible repeat (first | refine blk_drewN ?_ _ | refine blk_drew ?_ | refine blk_alloc ?_ _)); exact BK437.out⟩, ⟨by repeat (first | (with_reducible first | exact HB.out | apply below_alloc | apply pw_below_drewN | apply below_drew1 | refine below_set ?_ GE432.out | refine below_set ?_ GE435.out | refine below_set ?_ GE437.out) | exact HB.out)⟩⟩
          case rest =>
           clear HC15
           try clear c1
           try clear c2
           try clear p2
           try clear c3
           try clear c3b0
           try clear c4
           try clear c4b0
           try clear p4
           try clear q4
           try clear hx4
           try clear c5
           try clear c5b0
           try clear c5b1
           try clear c6
           try clear c6b0
           try clear c6b1
           try clear p6
           try clear c7
           try clear c7b0
           try clear c8
           try clear c8b0
           try clear c11
           try clear c13
           try clear c13b0
           try clear c14
           try clear c14b0
           try clear c17
           try clear c18
           try clear c20
           try clear c20b0
           try clear hcz12_0
           try clear hcz12_1
           try clear hcz19_0
           try clear hcz19_1
           try clear hcz9_0
           try clear hcz9_1
           try clear hfz12_0
           try clear hfz12_1
           try clear hfz19_0
           try clear hfz19_1
           try clear hfz9_0
           try clear hfz9_1
           try clear hx433_0
           try clear hx433_1
           try clear hx434_0
           try clear hx434_1
           try clear hx436_0
           try clear hx436_1
           try clear p2
           try clear p4
           try clear p433
           try clear p434
           try clear p436
           try clear p6
           try clear q4
           try clear q433
           try clear q434
           try clear q436
           obtain ⟨kq, x9_14, rfl, HA, HJ14, BK432, BK435, BK437, HB⟩ := hcut
           cases kq with
           | zero => exact absurd HA.out (by simp [bulletinref13_Of.j2])
           | succ kj14 =>
            have H := HA.out
            clear HA
            simp only [bulletinref13_Of.j2] at H
            have HC21 := Aside0.mk H
            clear H
            go_upto_region 17 with (fail)
            go_cut [75] (fun v75 wc => ∃ (kq : Nat) (x75_20 : Bool), v75 = .bool x75_20 ∧ Aside0 (bulletinref13_Of.j3 kq l0 x4_1 x7_2 x9_14 x75_20 x436000_2 x436001_2 ((rd_T148 l0 x7_2).f0) ((rd_T148 l0 x7_2).f1) = some (r1, r2, r3)) ∧ Aside0 (kq ≤ kj14) ∧ Aside0 (wc.heap[gb432]? = some (.cells #[.string x433000_2, .string x433001_2] 31 (0, 0))) ∧ Aside0 (wc.heap[gb435]? = some (.cells #[.string x436000_2, .string x436001_2] 31 (0, 0))) ∧ Aside0 (wc.heap[gb437]? = some (.cells #[.int .i64 ((rd_T148 l0 x7_2).f0), .string ((rd_T148 l0 x7_2).f1)] 148 (0, 0))) ∧ Aside0 (Below w.heap.size w wc))
            case first =>
             have H := HC21.out
             clear HC21
             by_cases c22 : x7_2 = x4_1
             ·rw [if_pos c22] at H
              have c22b0 : (x7_2 == x4_1) = true := beq_iff_eq.mpr c22
              have c22b1 : (x7_2 != x4_1) = false := bne_eq_false_iff_eq.mpr c22
              clear c22
              (first | rw [c22b0] | (simp only [i64_w, i32_w]; rw [c22b0]) | skip)
              have H' := Aside0.mk H
              clear H
              as_aux_lemma =>
               go_wp2
               go_meet
               case rel => exact ⟨_, (false), cl, H', ⟨by have := HK1.out; have := HK2.out; have := HJ14.out; first | omega | exact Nat.le_refl _⟩, ⟨by (with_reducible repeat (first | refine blk_drewN ?_ _ | refine blk_drew ?_ | refine blk_alloc ?_ _)); exact BK432.out⟩, ⟨by (with_reducible repeat (first | refine blk_drewN ?_ _ | refine blk_drew ?_ | refine blk_alloc ?_ _)); exact BK435.out⟩, ⟨by (with_reducible repeat (first | refine blk_drewN ?_ _ | refine blk_drew ?_ | refine blk_alloc ?_ _)); exact BK437.out⟩, ⟨by repeat (first | (with_reducible first | exact HB.out | apply below_alloc | apply pw_below_drewN | apply below_drew1 | refine below_set ?_ GE432.out | refine below_set ?_ GE435.out | refine below_set ?_ GE437.out) | exact HB.out)⟩⟩
             ·rw [if_neg c22] at H
              have c22b0 : (x7_2 == x4_1) = false := beq_eq_false_iff_ne.mpr c22
              have c22b1 : (x7_2 != x4_1) = true := bne_iff_ne.mpr c22
              (first | rw [c22b0] | (simp only [i64_w, i32_w]; rw [c22b0]) | skip)
              by_cases c23 : (Int.tmod x9_14 2) = 1
              ·rw [if_pos c23] at H
               have c23b0 : ((Int.tmod x9_14 2) == 1) = true := beq_iff_eq.mpr c23
               have c23b1 : ((Int.tmod x9_14 2) != 1) = false := bne_eq_false_iff_eq.mpr c23
               clear c23
               by_cases c24 : ((rd_T148 l0 x7_2).f0) = 3
               ·rw [if_pos c24] at H
                have c24b0 : (((rd_T148 l0 x7_2).f0) == 3) = true := beq_iff_eq.mpr c24
                have c24b1 : (((rd_T148 l0 x7_2).f0) != 3) = false := bne_eq_false_iff_eq.mpr c24
                clear c24
                have H' := Aside0.mk H
                clear H
                have hnb25 := NB437_432.out
                have hnc25 := NB432_437.out
                have hnb26 := NB437_435.out
                have hnc26 := NB435_437.out
                have hcz27_0 : wc.cell? ⟨gb437, 0, none⟩ = some (.int .i64 ((rd_T148 l0 x7_2).f0)) := (blk_cell BK437.out 0).trans rfl
                have hcz27_1 : wc.cell? ⟨gb437, 1, none⟩ = some (.string ((rd_T148 l0 x7_2).f1)) := (blk_cell BK437.out 1).trans rfl
                have hfz27_0 := blk_frozen BK437.out 0
                have hfz27_1 := blk_frozen BK437.out 1
                as_aux_lemma =>
                 go_wp2
                 go_meet
                 case rel => exact ⟨_, ((((rd_T148 l0 x7_2).f1).toList != ([46] : List UInt8))), cl, H', ⟨by have := HK1.out; have := HK2.out; have := HJ14.out; first | omega | exact Nat.le_refl _⟩, ⟨by (with_reducible repeat (first | refine blk_drewN ?_ _ | refine blk_drew ?_ | refine blk_alloc ?_ _)); exact BK432.out⟩, ⟨by (with_reducible repeat (first | refine blk_drewN ?_ _ | refine blk_drew ?_ | refine blk_alloc ?_ _)); exact BK435.out⟩, ⟨by (with_reducible repeat (first | refine blk_drewN ?_ _ | refine blk_drew ?_ | refine blk_alloc ?_ _)); exact BK437.out⟩, ⟨by repeat (first | (with_reducible first | exact HB.out | apply below_alloc | apply pw_below_drewN | apply below_drew1 | refine below_set ?_ GE432.out | refine below_set ?_ GE435.out | refine below_set ?_ GE437.out) | exact HB.out)⟩⟩
               ·rw [if_neg c24] at H
                have c24b0 : (((rd_T148 l0 x7_2).f0) == 3) = false := beq_eq_false_iff_ne.mpr c24
                have c24b1 : (((rd_T148 l0 x7_2).f0) != 3) = true := bne_iff_ne.mpr c24
                have H' := Aside0.mk H
                clear H
                have hnb28 := NB437_432.out
                have hnc28 := NB432_437.out
                have hnb29 := NB437_435.out
                have hnc29 := NB435_437.out
                have hcz30_0 : wc.cell? ⟨gb437, 0, none⟩ = some (.int .i64 ((rd_T148 l0 x7_2).f0)) := (blk_cell BK437.out 0).trans rfl
                have hcz30_1 : wc.cell? ⟨gb437, 1, none⟩ = some (.string ((rd_T148 l0 x7_2).f1)) := (blk_cell BK437.out 1).trans rfl
                have hfz30_0 := blk_frozen BK437.out 0
                have hfz30_1 := blk_frozen BK437.out 1
                as_aux_lemma =>
                 go_wp2
                 go_meet
                 case rel => exact ⟨_, (true), cl, H', ⟨by have := HK1.out; have := HK2.out; have := HJ14.out; first | omega | exact Nat.le_refl _⟩, ⟨by (with_reducible repeat (first | refine blk_drewN ?_ _ | refine blk_drew ?_ | refine blk_alloc ?_ _)); exact BK432.out⟩, ⟨by (with_reducible repeat (first | refine blk_drewN ?_ _ | refine blk_drew ?_ | refine blk_alloc ?_ _)); exact BK435.out⟩, ⟨by (with_reducible repeat (first | refine blk_drewN ?_ _ | refine blk_drew ?_ | refine blk_alloc ?_ _)); exact BK437.out⟩, ⟨by repeat (first | (with_reducible first | exact HB.out | apply below_alloc | apply pw_below_drewN | apply below_drew1 | refine below_set ?_ GE432.out | refine below_set ?_ GE435.out | refine below_set ?_ GE437.out) | exact HB.out)⟩⟩
              ·rw [if_neg c23] at H
               have c23b0 : ((Int.tmod x9_14 2) == 1) = false := beq_eq_false_iff_ne.mpr c23
               have c23b1 : ((Int.tmod x9_14 2) != 1) = true := bne_iff_ne.mpr c23
               have H' := Aside0.mk H
               clear H
               as_aux_lemma =>
                go_wp2
                go_meet
                case rel => exact ⟨_, (false), cl, H', ⟨by have := HK1.out; have := HK2.out; have := HJ14.out; first | omega | exact Nat.le_refl _⟩, ⟨by (with_reducible repeat (first | refine blk_drewN ?_ _ | refine blk_drew ?_ | refine blk_alloc ?_ _)); exact BK432.out⟩, ⟨by (with_reducible repeat (first | refine blk_drewN ?_ _ | refine blk_drew ?_ | refine blk_alloc ?_ _)); exact BK435.out⟩, ⟨by (with_reducible repeat (first | refine blk_drewN ?_ _ | refine blk_drew ?_ | refine blk_alloc ?_ _)); exact BK437.out⟩, ⟨by repeat (first | (with_reducible first | exact HB.out | apply below_alloc | apply pw_below_drewN | apply below_drew1 | refine below_set ?_ GE432.out | refine below_set ?_ GE435.out | refine below_set ?_ GE437.out) | exact HB.out)⟩⟩
            case rest =>
             clear HC21
             try clear c1
             try clear c2
             try clear p2
             try clear c3
             try clear c3b0
             try clear c4
             try clear c4b0
             try clear p4
             try clear q4
             try clear hx4
             try clear c5
             try clear c5b0
             try clear c5b1
             try clear c6
             try clear c6b0
             try clear c6b1
             try clear p6
             try clear c7
             try clear c7b0
             try clear c8
             try clear c8b0
             try clear c11
             try clear c13
             try clear c13b0
             try clear c14
             try clear c14b0
             try clear c17
             try clear c18
             try clear c20
             try clear c20b0
             try clear c22
             try clear c22b0
             try clear c22b1
             try clear c23
             try clear c23b0
             try clear c23b1
             try clear c24
             try clear c24b0
             try clear c24b1
             try clear c25
             try clear c26
             try clear c28
             try clear c29
             try clear hcz12_0
             try clear hcz12_1
             try clear hcz19_0
             try clear hcz19_1
             try clear hcz27_0
             try clear hcz27_1
             try clear hcz30_0
             try clear hcz30_1
             try clear hcz9_0
             try clear hcz9_1
             try clear hfz12_0
             try clear hfz12_1
             try clear hfz19_0
             try clear hfz19_1
             try clear hfz27_0
             try clear hfz27_1
             try clear hfz30_0
             try clear hfz30_1
             try clear hfz9_0
             try clear hfz9_1
             try clear hx433_0
             try clear hx433_1
             try clear hx434_0
             try clear hx434_1
             try clear hx436_0
             try clear hx436_1
             try clear p2
             try clear p4
             try clear p433
             try clear p434
             try clear p436
             try clear p6
             try clear q4
             try clear q433
             try clear q434
             try clear q436
             obtain ⟨kq, x75_20, rfl, HA, HJ20, BK432, BK435, BK437, HB⟩ := hcut
             cases kq with
             | zero => exact absurd HA.out (by simp [bulletinref13_Of.j3])
             | succ kj20 =>
              have H := HA.out
              clear HA
              simp only [bulletinref13_Of.j3] at H
              by_cases c31 : x75_20 = true
              ·subst c31
               have H1 : (some ((⟨#[]⟩ : ByteArray), (⟨#[]⟩ : ByteArray), 130)) = some (r1, r2, r3) := by rw [if_pos rfl] at H; exact H
               clear H
               have H := H1
               clear H1
               simp only [Option.some.injEq, Prod.mk.injEq] at H
               obtain ⟨rfl, rfl, rfl⟩ := H
               have hnb32 := NB432_435.out
               have hnc32 := NB435_432.out
               have hnb33 := NB432_437.out
               have hnc33 := NB437_432.out
               have hcz34_0 : wc.cell? ⟨gb432, 0, none⟩ = some (.string x433000_2) := (blk_cell BK432.out 0).trans rfl
               have hcz34_1 : wc.cell? ⟨gb432, 1, none⟩ = some (.string x433001_2) := (blk_cell BK432.out 1).trans rfl
               have hfz34_0 := blk_frozen BK432.out 0
               have hfz34_1 := blk_frozen BK432.out 1
               as_aux_lemma =>
                go_wp2
                refine bodyPost_ret (results_ct rfl _ _ gb432 31 #[.string (⟨#[]⟩ : ByteArray), .string (⟨#[]⟩ : ByteArray)] (0, 0) _ rfl (by (with_reducible repeat (first | refine blk_drewN ?_ _ | refine blk_drew ?_ | refine blk_alloc ?_ _)); refine blk_put (cs := #[.string (⟨#[]⟩ : ByteArray), .string x433001_2]) ?_ 1 _ rfl; (with_reducible repeat (first | refine blk_drewN ?_ _ | refine blk_drew ?_ | refine blk_alloc ?_ _)); refine blk_put (cs := #[.string x433000_2, .string x433001_2]) ?_ 0 _ rfl; (with_reducible repeat (first | refine blk_drewN ?_ _ | refine blk_drew ?_ | refine blk_alloc ?_ _)); exact BK432.out) Tryd.underlying31 rfl (by kernel_rfl)) rfl ?_
                exact ⟨by first | rfl | (simp [errW_none, errW_some] <;> rfl) | (simp [*, errW_none, errW_some] <;> rfl), by repeat (first | (with_reducible first | exact HB.out | apply below_alloc | apply pw_below_drewN | apply below_drew1 | refine below_set ?_ GE432.out | refine below_set ?_ GE435.out | refine below_set ?_ GE437.out) | exact HB.out)⟩
              ·replace c31 := Bool.eq_false_iff.mpr c31
               subst c31
               have H1 : (if x7_2 = x4_1 then (bulletinref13_Of.j4 kj20 l0 x4_1 x7_2 false x436000_2 x436001_2 ((rd_T148 l0 x7_2).f0) ((rd_T148 l0 x7_2).f1)) else (if (Int.tmod x9_14 2) = 0 then (if ((rd_T148 l0 x7_2).f0) = 3 then (bulletinref13_Of.j4 kj20 l0 x4_1 x7_2 true x436000_2 x436001_2 ((rd_T148 l0 x7_2).f0) ((rd_T148 l0 x7_2).f1)) else (if x7_2 > x4_1 then (bulletinref13_Of.j4 kj20 l0 x4_1 x7_2 (((rd_T148 l0 x7_2).f0) != 1) x436000_2 x436001_2 ((rd_T148 l0 x7_2).f0) ((rd_T148 l0 x7_2).f1)) else (bulletinref13_Of.j4 kj20 l0 x4_1 x7_2 false x436000_2 x436001_2 ((rd_T148 l0 x7_2).f0) ((rd_T148 l0 x7_2).f1)))) else (bulletinref13_Of.j4 kj20 l0 x4_1 x7_2 false x436000_2 x436001_2 ((rd_T148 l0 x7_2).f0) ((rd_T148 l0 x7_2).f1)))) = some (r1, r2, r3) := by rw [if_neg (show ¬ (false = true) by decide)] at H; exact H
               clear H
               have H := H1
               clear H1
               have HC35 := Aside0.mk H
               clear H
               go_upto_region 19 with (fail)
               go_cut [99] (fun v99 wc => ∃ (kq : Nat) (x99_34 : Bool), v99 = .bool x99_34 ∧ Aside0 (bulletinref13_Of.j4 kq l0 x4_1 x7_2 x99_34 x436000_2 x436001_2 ((rd_T148 l0 x7_2).f0) ((rd_T148 l0 x7_2).f1) = some (r1, r2, r3)) ∧ Aside0 (kq ≤ kj20) ∧ Aside0 (wc.heap[gb432]? = some (.cells #[.string x433000_2, .string x433001_2] 31 (0, 0))) ∧ Aside0 (wc.heap[gb435]? = some (.cells #[.string x436000_2, .string x436001_2] 31 (0, 0))) ∧ Aside0 (wc.heap[gb437]? = some (.cells #[.int .i64 ((rd_T148 l0 x7_2).f0), .string ((rd_T148 l0 x7_2).f1)] 148 (0, 0))) ∧ Aside0 (Below w.heap.size w wc))
               case first =>
                have H := HC35.out
                clear HC35
                by_cases c36 : x7_2 = x4_1
                ·rw [if_pos c36] at H
                 have c36b0 : (x7_2 == x4_1) = true := beq_iff_eq.mpr c36
                 have c36b1 : (x7_2 != x4_1) = false := bne_eq_false_iff_eq.mpr c36
                 clear c36
                 (first | rw [c36b0] | (simp only [i64_w, i32_w]; rw [c36b0]) | skip)
                 have H' := Aside0.mk H
                 clear H
                 as_aux_lemma =>
                  go_wp2
                  go_meet
                  case rel => exact ⟨_, (false), cl, H', ⟨by have := HK1.out; have := HK2.out; have := HJ14.out; have := HJ20.out; first | omega | exact Nat.le_refl _⟩, ⟨by (with_reducible repeat (first | refine blk_drewN ?_ _ | refine blk_drew ?_ | refine blk_alloc ?_ _)); exact BK432.out⟩, ⟨by (with_reducible repeat (first | refine blk_drewN ?_ _ | refine blk_drew ?_ | refine blk_alloc ?_ _)); exact BK435.out⟩, ⟨by (with_reducible repeat (first | refine blk_drewN ?_ _ | refine blk_drew ?_ | refine blk_alloc ?_ _)); exact BK437.out⟩, ⟨by repeat (first | (with_reducible first | exact HB.out | apply below_alloc | apply pw_below_drewN | apply below_drew1 | refine below_set ?_ GE432.out | refine below_set ?_ GE435.out | refine below_set ?_ GE437.out) | exact HB.out)⟩⟩
                ·rw [if_neg c36] at H
                 have c36b0 : (x7_2 == x4_1) = false := beq_eq_false_iff_ne.mpr c36
                 have c36b1 : (x7_2 != x4_1) = true := bne_iff_ne.mpr c36
                 (first | rw [c36b0] | (simp only [i64_w, i32_w]; rw [c36b0]) | skip)
                 by_cases c37 : (Int.tmod x9_14 2) = 0
                 ·rw [if_pos c37] at H
                  have c37b0 : ((Int.tmod x9_14 2) == 0) = true := beq_iff_eq.mpr c37
                  have c37b1 : ((Int.tmod x9_14 2) != 0) = false := bne_eq_false_iff_eq.mpr c37
                  clear c37
                  by_cases c38 : ((rd_T148 l0 x7_2).f0) = 3
                  ·rw [if_pos c38] at H
                   have c38b0 : (((rd_T148 l0 x7_2).f0) == 3) = true := beq_iff_eq.mpr c38
                   have c38b1 : (((rd_T148 l0 x7_2).f0) != 3) = false := bne_eq_false_iff_eq.mpr c38
                   clear c38
                   have H' := Aside0.mk H
                   clear H
                   have hnb39 := NB437_432.out
                   have hnc39 := NB432_437.out
                   have hnb40 := NB437_435.out
                   have hnc40 := NB435_437.out
                   have hcz41_0 : wc.cell? ⟨gb437, 0, none⟩ = some (.int .i64 ((rd_T148 l0 x7_2).f0)) := (blk_cell BK437.out 0).trans rfl
                   have hcz41_1 : wc.cell? ⟨gb437, 1, none⟩ = some (.string ((rd_T148 l0 x7_2).f1)) := (blk_cell BK437.out 1).trans rfl
                   have hfz41_0 := blk_frozen BK437.out 0
                   have hfz41_1 := blk_frozen BK437.out 1
                   as_aux_lemma =>
                    go_wp2
                    go_meet
                    case rel => exact ⟨_, (true), cl, H', ⟨by have := HK1.out; have := HK2.out; have := HJ14.out; have := HJ20.out; first | omega | exact Nat.le_refl _⟩, ⟨by (with_reducible repeat (first | refine blk_drewN ?_ _ | refine blk_drew ?_ | refine blk_alloc ?_ _)); exact BK432.out⟩, ⟨by (with_reducible repeat (first | refine blk_drewN ?_ _ | refine blk_drew ?_ | refine blk_alloc ?_ _)); exact BK435.out⟩, ⟨by (with_reducible repeat (first | refine blk_drewN ?_ _ | refine blk_drew ?_ | refine blk_alloc ?_ _)); exact BK437.out⟩, ⟨by repeat (first | (with_reducible first | exact HB.out | apply below_alloc | apply pw_below_drewN | apply below_drew1 | refine below_set ?_ GE432.out | refine below_set ?_ GE435.out | refine below_set ?_ GE437.out) | exact HB.out)⟩⟩
                  ·rw [if_neg c38] at H
                   have c38b0 : (((rd_T148 l0 x7_2).f0) == 3) = false := beq_eq_false_iff_ne.mpr c38
                   have c38b1 : (((rd_T148 l0 x7_2).f0) != 3) = true := bne_iff_ne.mpr c38
                   by_cases c42 : x7_2 > x4_1
                   ·rw [if_pos c42] at H
                    have c42b0 : decide (x4_1 < x7_2) = true := decide_eq_true c42
                    clear c42
                    have H' := Aside0.mk H
                    clear H
                    have hnb43 := NB437_432.out
                    have hnc43 := NB432_437.out
                    have hnb44 := NB437_435.out
                    have hnc44 := NB435_437.out
                    have hcz45_0 : wc.cell? ⟨gb437, 0, none⟩ = some (.int .i64 ((rd_T148 l0 x7_2).f0)) := (blk_cell BK437.out 0).trans rfl
                    have hcz45_1 : wc.cell? ⟨gb437, 1, none⟩ = some (.string ((rd_T148 l0 x7_2).f1)) := (blk_cell BK437.out 1).trans rfl
                    have hfz45_0 := blk_frozen BK437.out 0
                    have hfz45_1 := blk_frozen BK437.out 1
                    as_aux_lemma =>
                     go_wp2
                     go_meet
                     case rel => exact ⟨_, ((((rd_T148 l0 x7_2).f0) != 1)), cl, H', ⟨by have := HK1.out; have := HK2.out; have := HJ14.out; have := HJ20.out; first | omega | exact Nat.le_refl _⟩, ⟨by (with_reducible repeat (first | refine blk_drewN ?_ _ | refine blk_drew ?_ | refine blk_alloc ?_ _)); exact BK432.out⟩, ⟨by (with_reducible repeat (first | refine blk_drewN ?_ _ | refine blk_drew ?_ | refine blk_alloc ?_ _)); exact BK435.out⟩, ⟨by (with_reducible repeat (first | refine blk_drewN ?_ _ | refine blk_drew ?_ | refine blk_alloc ?_ _)); exact BK437.out⟩, ⟨by repeat (first | (with_reducible first | exact HB.out | apply below_alloc | apply pw_below_drewN | apply below_drew1 | refine below_set ?_ GE432.out | refine below_set ?_ GE435.out | refine below_set ?_ GE437.out) | exact HB.out)⟩⟩
                   ·rw [if_neg c42] at H
                    have c42b0 : decide (x4_1 < x7_2) = false := decide_eq_false c42
                    clear c42
                    have H' := Aside0.mk H
                    clear H
                    have hnb46 := NB437_432.out
                    have hnc46 := NB432_437.out
                    have hnb47 := NB437_435.out
                    have hnc47 := NB435_437.out
                    have hcz48_0 : wc.cell? ⟨gb437, 0, none⟩ = some (.int .i64 ((rd_T148 l0 x7_2).f0)) := (blk_cell BK437.out 0).trans rfl
                    have hcz48_1 : wc.cell? ⟨gb437, 1, none⟩ = some (.string ((rd_T148 l0 x7_2).f1)) := (blk_cell BK437.out 1).trans rfl
                    have hfz48_0 := blk_frozen BK437.out 0
                    have hfz48_1 := blk_frozen BK437.out 1
                    as_aux_lemma =>
                     go_wp2
                     go_meet
                     case rel => exact ⟨_, (false), cl, H', ⟨by have := HK1.out; have := HK2.out; have := HJ14.out; have := HJ20.out; first | omega | exact Nat.le_refl _⟩, ⟨by (with_reducible repeat (first | refine blk_drewN ?_ _ | refine blk_drew ?_ | refine blk_alloc ?_ _)); exact BK432.out⟩, ⟨by (with_reducible repeat (first | refine blk_drewN ?_ _ | refine blk_drew ?_ | refine blk_alloc ?_ _)); exact BK435.out⟩, ⟨by (with_reducible repeat (first | refine blk_drewN ?_ _ | refine blk_drew ?_ | refine blk_alloc ?_ _)); exact BK437.out⟩, ⟨by repeat (first | (with_reducible first | exact HB.out | apply below_alloc | apply pw_below_drewN | apply below_drew1 | refine below_set ?_ GE432.out | refine below_set ?_ GE435.out | refine below_set ?_ GE437.out) | exact HB.out)⟩⟩
                 ·rw [if_neg c37] at H
                  have c37b0 : ((Int.tmod x9_14 2) == 0) = false := beq_eq_false_iff_ne.mpr c37
                  have c37b1 : ((Int.tmod x9_14 2) != 0) = true := bne_iff_ne.mpr c37
                  have H' := Aside0.mk H
                  clear H
                  as_aux_lemma =>
                   go_wp2
                   go_meet
                   case rel => exact ⟨_, (false), cl, H', ⟨by have := HK1.out; have := HK2.out; have := HJ14.out; have := HJ20.out; first | omega | exact Nat.le_refl _⟩, ⟨by (with_reducible repeat (first | refine blk_drewN ?_ _ | refine blk_drew ?_ | refine blk_alloc ?_ _)); exact BK432.out⟩, ⟨by (with_reducible repeat (first | refine blk_drewN ?_ _ | refine blk_drew ?_ | refine blk_alloc ?_ _)); exact BK435.out⟩, ⟨by (with_reducible repeat (first | refine blk_drewN ?_ _ | refine blk_drew ?_ | refine blk_alloc ?_ _)); exact BK437.out⟩, ⟨by repeat (first | (with_reducible first | exact HB.out | apply below_alloc | apply pw_below_drewN | apply below_drew1 | refine below_set ?_ GE432.out | refine below_set ?_ GE435.out | refine below_set ?_ GE437.out) | exact HB.out)⟩⟩
               case rest =>
                clear HC35
                try clear c1
                try clear c2
                try clear p2
                try clear c3
                try clear c3b0
                try clear c4
                try clear c4b0
                try clear p4
                try clear q4
                try clear hx4
                try clear c5
                try clear c5b0
                try clear c5b1
                try clear c6
                try clear c6b0
                try clear c6b1
                try clear p6
                try clear c7
                try clear c7b0
                try clear c8
                try clear c8b0
                try clear c11
                try clear c13
                try clear c13b0
                try clear c14
                try clear c14b0
                try clear c17
                try clear c18
                try clear c20
                try clear c20b0
                try clear c22
                try clear c22b0
                try clear c22b1
                try clear c23
                try clear c23b0
                try clear c23b1
                try clear c24
                try clear c24b0
                try clear c24b1
                try clear c25
                try clear c26
                try clear c28
                try clear c29
                try clear c31
                try clear c32
                try clear c33
                try clear c36
                try clear c36b0
                try clear c36b1
                try clear c37
                try clear c37b0
                try clear c37b1
                try clear c38
                try clear c38b0
                try clear c38b1
                try clear c39
                try clear c40
                try clear c42
                try clear c42b0
                try clear c43
                try clear p43
                try clear q43
                try clear hx43
                try clear c44
                try clear c46
                try clear c47
                try clear hcz12_0
                try clear hcz12_1
                try clear hcz19_0
                try clear hcz19_1
                try clear hcz27_0
                try clear hcz27_1
                try clear hcz30_0
                try clear hcz30_1
                try clear hcz34_0
                try clear hcz34_1
                try clear hcz41_0
                try clear hcz41_1
                try clear hcz45_0
                try clear hcz45_1
                try clear hcz48_0
                try clear hcz48_1
                try clear hcz9_0
                try clear hcz9_1
                try clear hfz12_0
                try clear hfz12_1
                try clear hfz19_0
                try clear hfz19_1
                try clear hfz27_0
                try clear hfz27_1
                try clear hfz30_0
                try clear hfz30_1
                try clear hfz34_0
                try clear hfz34_1
                try clear hfz41_0
                try clear hfz41_1
                try clear hfz45_0
                try clear hfz45_1
                try clear hfz48_0
                try clear hfz48_1
                try clear hfz9_0
                try clear hfz9_1
                try clear hx433_0
                try clear hx433_1
                try clear hx434_0
                try clear hx434_1
                try clear hx436_0
                try clear hx436_1
                try clear p2
                try clear p4
                try clear p433
                try clear p434
                try clear p436
                try clear p6
                try clear q4
                try clear q433
                try clear q434
                try clear q436
                obtain ⟨kq, x99_34, rfl, HA, HJ34, BK432, BK435, BK437, HB⟩ := hcut
                cases kq with
                | zero => exact absurd HA.out (by simp [bulletinref13_Of.j4])
                | succ kj34 =>
                 have H := HA.out
                 clear HA
                 simp only [bulletinref13_Of.j4] at H
                 by_cases c49 : x99_34 = true
                 ·subst c49
                  have H1 : (some ((⟨#[]⟩ : ByteArray), (⟨#[]⟩ : ByteArray), 130)) = some (r1, r2, r3) := by rw [if_pos rfl] at H; exact H
                  clear H
                  have H := H1
                  clear H1
                  simp only [Option.some.injEq, Prod.mk.injEq] at H
                  obtain ⟨rfl, rfl, rfl⟩ := H
                  have hnb50 := NB432_435.out
                  have hnc50 := NB435_432.out
                  have hnb51 := NB432_437.out
                  have hnc51 := NB437_432.out
                  have hcz52_0 : wc.cell? ⟨gb432, 0, none⟩ = some (.string x433000_2) := (blk_cell BK432.out 0).trans rfl
                  have hcz52_1 : wc.cell? ⟨gb432, 1, none⟩ = some (.string x433001_2) := (blk_cell BK432.out 1).trans rfl
                  have hfz52_0 := blk_frozen BK432.out 0
                  have hfz52_1 := blk_frozen BK432.out 1
                  as_aux_lemma =>
                   go_wp2
                   refine bodyPost_ret (results_ct rfl _ _ gb432 31 #[.string (⟨#[]⟩ : ByteArray), .string (⟨#[]⟩ : ByteArray)] (0, 0) _ rfl (by (with_reducible repeat (first | refine blk_drewN ?_ _ | refine blk_drew ?_ | refine blk_alloc ?_ _)); refine blk_put (cs := #[.string (⟨#[]⟩ : ByteArray), .string x433001_2]) ?_ 1 _ rfl; (with_reducible repeat (first | refine blk_drewN ?_ _ | refine blk_drew ?_ | refine blk_alloc ?_ _)); refine blk_put (cs := #[.string x433000_2, .string x433001_2]) ?_ 0 _ rfl; (with_reducible repeat (first | refine blk_drewN ?_ _ | refine blk_drew ?_ | refine blk_alloc ?_ _)); exact BK432.out) Tryd.underlying31 rfl (by kernel_rfl)) rfl ?_
                   exact ⟨by first | rfl | (simp [errW_none, errW_some] <;> rfl) | (simp [*, errW_none, errW_some] <;> rfl), by repeat (first | (with_reducible first | exact HB.out | apply below_alloc | apply pw_below_drewN | apply below_drew1 | refine below_set ?_ GE432.out | refine below_set ?_ GE435.out | refine below_set ?_ GE437.out) | exact HB.out)⟩
                 ·replace c49 := Bool.eq_false_iff.mpr c49
                  subst c49
                  have H1 : (if x7_2 < x4_1 then (if x436000_2.size + ((rd_T148 l0 x7_2).f1).size ≤ 9223372036854775807 then (if x7_2 > x4_1 then (if x436001_2.size + ((rd_T148 l0 x7_2).f1).size ≤ 9223372036854775807 then (bulletinref13_Of.l1 kj34 l0 x4_1 (wrap64 (x7_2 + 1)) (x436000_2 ++ ((rd_T148 l0 x7_2).f1)) (x436001_2 ++ ((rd_T148 l0 x7_2).f1))) else (none)) else (bulletinref13_Of.l1 kj34 l0 x4_1 (wrap64 (x7_2 + 1)) (x436000_2 ++ ((rd_T148 l0 x7_2).f1)) x436001_2)) else (none)) else (if x7_2 > x4_1 then (if x436001_2.size + ((rd_T148 l0 x7_2).f1).size ≤ 9223372036854775807 then (bulletinref13_Of.l1 kj34 l0 x4_1 (wrap64 (x7_2 + 1)) x436000_2 (x436001_2 ++ ((rd_T148 l0 x7_2).f1))) else (none)) else (bulletinref13_Of.l1 kj34 l0 x4_1 (wrap64 (x7_2 + 1)) x436000_2 x436001_2))) = some (r1, r2, r3) := by rw [if_neg (show ¬ (false = true) by decide)] at H; exact H
                  clear H
                  have H := H1
                  clear H1
                  by_cases c53 : x7_2 < x4_1
                  ·rw [if_pos c53] at H
                   have c53b0 : decide (x7_2 < x4_1) = true := decide_eq_true c53
                   clear c53
                   by_cases c54 : x436000_2.size + ((rd_T148 l0 x7_2).f1).size ≤ 9223372036854775807
                   ·rw [if_pos c54] at H
                    have c54b0 := eq_true c54
                    have c54b1 : decide (x436000_2.size + ((rd_T148 l0 x7_2).f1).size ≤ 9223372036854775807) = true := decide_eq_true c54
                    try have c54b2 : (9223372036854775807 < x436000_2.size + ((rd_T148 l0 x7_2).f1).size) = False := eq_false (Nat.not_lt.2 c54)
                    by_cases c55 : x7_2 > x4_1
                    ·rw [if_pos c55] at H
                     have c55b0 : decide (x4_1 < x7_2) = true := decide_eq_true c55
                     clear c55
                     by_cases c56 : x436001_2.size + ((rd_T148 l0 x7_2).f1).size ≤ 9223372036854775807
                     ·rw [if_pos c56] at H
                      have c56b0 := eq_true c56
                      have c56b1 : decide (x436001_2.size + ((rd_T148 l0 x7_2).f1).size ≤ 9223372036854775807) = true := decide_eq_true c56
                      try have c56b2 : (9223372036854775807 < x436001_2.size + ((rd_T148 l0 x7_2).f1).size) = False := eq_false (Nat.not_lt.2 c56)
                      have H' := Aside0.mk H
                      clear H
                      have hnb57 := NB435_432.out
                      have hnc57 := NB432_435.out
                      have hnb58 := NB435_437.out
                      have hnc58 := NB437_435.out
                      have hcz59_0 : wc.cell? ⟨gb435, 0, none⟩ = some (.string x436000_2) := (blk_cell BK435.out 0).trans rfl
                      have hcz59_1 : wc.cell? ⟨gb435, 1, none⟩ = some (.string x436001_2) := (blk_cell BK435.out 1).trans rfl
                      have hfz59_0 := blk_frozen BK435.out 0
                      have hfz59_1 := blk_frozen BK435.out 1
                      have hnb60 := NB437_432.out
                      have hnc60 := NB432_437.out
                      have hcz61_0 : wc.cell? ⟨gb437, 0, none⟩ = some (.int .i64 ((rd_T148 l0 x7_2).f0)) := (blk_cell BK437.out 0).trans rfl
                      have hcz61_1 : wc.cell? ⟨gb437, 1, none⟩ = some (.string ((rd_T148 l0 x7_2).f1)) := (blk_cell BK437.out 1).trans rfl
                      have hfz61_0 := blk_frozen BK437.out 0
                      have hfz61_1 := blk_frozen BK437.out 1
                      as_aux_lemma =>
                       go_wp2
                       go_roundg kj34
                       case measure => have := HK1.out; have := HK2.out; have := HJ14.out; have := HJ20.out; have := HJ34.out; omega
                       case rel => exact ⟨(wrap64 (x7_2 + 1)), (x433000_2), (x433001_2), (x436000_2 ++ ((rd_T148 l0 x7_2).f1)), (x436001_2 ++ ((rd_T148 l0 x7_2).f1)), cl, H', ⟨by have := HK1.out; have := HK2.out; have := HJ14.out; have := HJ20.out; have := HJ34.out; omega⟩, ⟨by (with_reducible repeat (first | refine blk_drewN ?_ _ | refine blk_drew ?_ | refine blk_alloc ?_ _)); refine blk_far ?_ NB432_435.out _; (with_reducible repeat (first | refine blk_drewN ?_ _ | refine blk_drew ?_ | refine blk_alloc ?_ _)); refine blk_far ?_ NB432_435.out _; (with_reducible repeat (first | refine blk_drewN ?_ _ | refine blk_drew ?_ | refine blk_alloc ?_ _)); exact BK432.out⟩, ⟨by (with_reducible repeat (first | refine blk_drewN ?_ _ | refine blk_drew ?_ | refine blk_alloc ?_ _)); refine blk_put (cs := #[.string (x436000_2 ++ ((rd_T148 l0 x7_2).f1)), .string x436001_2]) ?_ 1 _ rfl; (with_reducible repeat (first | refine blk_drewN ?_ _ | refine blk_drew ?_ | refine blk_alloc ?_ _)); refine blk_put (cs := #[.string x436000_2, .string x436001_2]) ?_ 0 _ rfl; (with_reducible repeat (first | refine blk_drewN ?_ _ | refine blk_drew ?_ | refine blk_alloc ?_ _)); exact BK435.out⟩, ⟨by repeat (first | (with_reducible first | exact HB.out | apply below_alloc | apply pw_below_drewN | apply below_drew1 | refine below_set ?_ GE432.out | refine below_set ?_ GE435.out | refine below_set ?_ GE437.out) | exact HB.out)⟩⟩
                     ·rw [if_neg c56] at H
                      exact absurd H (by simp)
                    ·rw [if_neg c55] at H
                     have c55b0 : decide (x4_1 < x7_2) = false := decide_eq_false c55
                     clear c55
                     have H' := Aside0.mk H
                     clear H
                     have hnb62 := NB435_432.out
                     have hnc62 := NB432_435.out
                     have hnb63 := NB435_437.out
                     have hnc63 := NB437_435.out
                     have hcz64_0 : wc.cell? ⟨gb435, 0, none⟩ = some (.string x436000_2) := (blk_cell BK435.out 0).trans rfl
                     have hcz64_1 : wc.cell? ⟨gb435, 1, none⟩ = some (.string x436001_2) := (blk_cell BK435.out 1).trans rfl
                     have hfz64_0 := blk_frozen BK435.out 0
                     have hfz64_1 := blk_frozen BK435.out 1
                     have hnb65 := NB437_432.out
                     have hnc65 := NB432_437.out
                     have hcz66_0 : wc.cell? ⟨gb437, 0, none⟩ = some (.int .i64 ((rd_T148 l0 x7_2).f0)) := (blk_cell BK437.out 0).trans rfl
                     have hcz66_1 : wc.cell? ⟨gb437, 1, none⟩ = some (.string ((rd_T148 l0 x7_2).f1)) := (blk_cell BK437.out 1).trans rfl
                     have hfz66_0 := blk_frozen BK437.out 0
                     have hfz66_1 := blk_frozen BK437.out 1
                     as_aux_lemma =>
                      go_wp2
                      go_roundg kj34
                      case measure => have := HK1.out; have := HK2.out; have := HJ14.out; have := HJ20.out; have := HJ34.out; omega
                      case rel => exact ⟨(wrap64 (x7_2 + 1)), (x433000_2), (x433001_2), (x436000_2 ++ ((rd_T148 l0 x7_2).f1)), (x436001_2), cl, H', ⟨by have := HK1.out; have := HK2.out; have := HJ14.out; have := HJ20.out; have := HJ34.out; omega⟩, ⟨by (with_reducible repeat (first | refine blk_drewN ?_ _ | refine blk_drew ?_ | refine blk_alloc ?_ _)); refine blk_far ?_ NB432_435.out _; (with_reducible repeat (first | refine blk_drewN ?_ _ | refine blk_drew ?_ | refine blk_alloc ?_ _)); exact BK432.out⟩, ⟨by (with_reducible repeat (first | refine blk_drewN ?_ _ | refine blk_drew ?_ | refine blk_alloc ?_ _)); refine blk_put (cs := #[.string x436000_2, .string x436001_2]) ?_ 0 _ rfl; (with_reducible repeat (first | refine blk_drewN ?_ _ | refine blk_drew ?_ | refine blk_alloc ?_ _)); exact BK435.out⟩, ⟨by repeat (first | (with_reducible first | exact HB.out | apply below_alloc | apply pw_below_drewN | apply below_drew1 | refine below_set ?_ GE432.out | refine below_set ?_ GE435.out | refine below_set ?_ GE437.out) | exact HB.out)⟩⟩
                   ·rw [if_neg c54] at H
                    exact absurd H (by simp)
                  ·rw [if_neg c53] at H
                   have c53b0 : decide (x7_2 < x4_1) = false := decide_eq_false c53
                   clear c53
                   by_cases c67 : x7_2 > x4_1
                   ·rw [if_pos c67] at H
                    have c67b0 : decide (x4_1 < x7_2) = true := decide_eq_true c67
                    clear c67
                    by_cases c68 : x436001_2.size + ((rd_T148 l0 x7_2).f1).size ≤ 9223372036854775807
                    ·rw [if_pos c68] at H
                     have c68b0 := eq_true c68
                     have c68b1 : decide (x436001_2.size + ((rd_T148 l0 x7_2).f1).size ≤ 9223372036854775807) = true := decide_eq_true c68
                     try have c68b2 : (9223372036854775807 < x436001_2.size + ((rd_T148 l0 x7_2).f1).size) = False := eq_false (Nat.not_lt.2 c68)
                     have H' := Aside0.mk H
                     clear H
                     have hnb69 := NB435_432.out
                     have hnc69 := NB432_435.out
                     have hnb70 := NB435_437.out
                     have hnc70 := NB437_435.out
                     have hcz71_0 : wc.cell? ⟨gb435, 0, none⟩ = some (.string x436000_2) := (blk_cell BK435.out 0).trans rfl
                     have hcz71_1 : wc.cell? ⟨gb435, 1, none⟩ = some (.string x436001_2) := (blk_cell BK435.out 1).trans rfl
                     have hfz71_0 := blk_frozen BK435.out 0
                     have hfz71_1 := blk_frozen BK435.out 1
                     have hnb72 := NB437_432.out
                     have hnc72 := NB432_437.out
                     have hcz73_0 : wc.cell? ⟨gb437, 0, none⟩ = some (.int .i64 ((rd_T148 l0 x7_2).f0)) := (blk_cell BK437.out 0).trans rfl
                     have hcz73_1 : wc.cell? ⟨gb437, 1, none⟩ = some (.string ((rd_T148 l0 x7_2).f1)) := (blk_cell BK437.out 1).trans rfl
                     have hfz73_0 := blk_frozen BK437.out 0
                     have hfz73_1 := blk_frozen BK437.out 1
                     as_aux_lemma =>
                      go_wp2
                      go_roundg kj34
                      case measure => have := HK1.out; have := HK2.out; have := HJ14.out; have := HJ20.out; have := HJ34.out; omega
                      case rel => exact ⟨(wrap64 (x7_2 + 1)), (x433000_2), (x433001_2), (x436000_2), (x436001_2 ++ ((rd_T148 l0 x7_2).f1)), cl, H', ⟨by have := HK1.out; have := HK2.out; have := HJ14.out; have := HJ20.out; have := HJ34.out; omega⟩, ⟨by (with_reducible repeat (first | refine blk_drewN ?_ _ | refine blk_drew ?_ | refine blk_alloc ?_ _)); refine blk_far ?_ NB432_435.out _; (with_reducible repeat (first | refine blk_drewN ?_ _ | refine blk_drew ?_ | refine blk_alloc ?_ _)); exact BK432.out⟩, ⟨by (with_reducible repeat (first | refine blk_drewN ?_ _ | refine blk_drew ?_ | refine blk_alloc ?_ _)); refine blk_put (cs := #[.string x436000_2, .string x436001_2]) ?_ 1 _ rfl; (with_reducible repeat (first | refine blk_drewN ?_ _ | refine blk_drew ?_ | refine blk_alloc ?_ _)); exact BK435.out⟩, ⟨by repeat (first | (with_reducible first | exact HB.out | apply below_alloc | apply pw_below_drewN | apply below_drew1 | refine below_set ?_ GE432.out | refine below_set ?_ GE435.out | refine below_set ?_ GE437.out) | exact HB.out)⟩⟩
                    ·rw [if_neg c68] at H
                     exact absurd H (by simp)
                   ·rw [if_neg c67] at H
                    have c67b0 : decide (x4_1 < x7_2) = false := decide_eq_false c67
                    clear c67
                    have H' := Aside0.mk H
                    clear H
                    as_aux_lemma =>
                     go_wp2
                     go_roundg kj34
                     case measure => have := HK1.out; have := HK2.out; have := HJ14.out; have := HJ20.out; have := HJ34.out; omega
                     case rel => exact ⟨(wrap64 (x7_2 + 1)), (x433000_2), (x433001_2), (x436000_2), (x436001_2), cl, H', ⟨by have := HK1.out; have := HK2.out; have := HJ14.out; have := HJ20.out; have := HJ34.out; omega⟩, ⟨by (with_reducible repeat (first | refine blk_drewN ?_ _ | refine blk_drew ?_ | refine blk_alloc ?_ _)); exact BK432.out⟩, ⟨by (with_reducible repeat (first | refine blk_drewN ?_ _ | refine blk_drew ?_ | refine blk_alloc ?_ _)); exact BK435.out⟩, ⟨by repeat (first | (with_reducible first | exact HB.out | apply below_alloc | apply pw_below_drewN | apply below_drew1 | refine below_set ?_ GE432.out | refine below_set ?_ GE435.out | refine below_set ?_ GE437.out) | exact HB.out)⟩⟩
         ·rw [if_neg c14] at H
          exact absurd H (by simp)
        ·rw [if_neg c13] at H
         have c13b0 : decide (x7_2 < (l0.length : Int)) = false := decide_eq_false c13
         clear c13
         have HC74 := Aside0.mk H
         clear H
         go_upto_region 25 with (fail)
         go_cut [130] (fun v130 wc => ∃ (kq : Nat) (x130_73 : Bool), v130 = .bool x130_73 ∧ Aside0 (bulletinref13_Of.j5 kq x130_73 x436000_2 x436001_2 = some (r1, r2, r3)) ∧ Aside0 (kq ≤ k2) ∧ Aside0 (wc.heap[gb432]? = some (.cells #[.string x433000_2, .string x433001_2] 31 (0, 0))) ∧ Aside0 (wc.heap[gb435]? = some (.cells #[.string x436000_2, .string x436001_2] 31 (0, 0))) ∧ Aside0 (Below w.heap.size w wc))
         case first =>
          have H := HC74.out
          clear HC74
          by_cases c75 : (Int.tmod x4_1 2) = 0
          ·rw [if_pos c75] at H
           have c75b0 : ((Int.tmod x4_1 2) == 0) = true := beq_iff_eq.mpr c75
           have c75b1 : ((Int.tmod x4_1 2) != 0) = false := bne_eq_false_iff_eq.mpr c75
           clear c75
           (first | rw [c75b0] | (simp only [i64_w, i32_w]; rw [c75b0]) | skip)
           have H' := Aside0.mk H
           clear H
           as_aux_lemma =>
            go_wp2
            go_meet
            case rel => exact ⟨_, (true), cl, H', ⟨by have := HK1.out; have := HK2.out; first | omega | exact Nat.le_refl _⟩, ⟨by (with_reducible repeat (first | refine blk_drewN ?_ _ | refine blk_drew ?_ | refine blk_alloc ?_ _)); exact BK432.out⟩, ⟨by (with_reducible repeat (first | refine blk_drewN ?_ _ | refine blk_drew ?_ | refine blk_alloc ?_ _)); exact BK435.out⟩, ⟨by repeat (first | (with_reducible first | exact HB.out | apply below_alloc | apply pw_below_drewN | apply below_drew1 | refine below_set ?_ GE432.out | refine below_set ?_ GE435.out) | exact HB.out)⟩⟩
          ·rw [if_neg c75] at H
           have c75b0 : ((Int.tmod x4_1 2) == 0) = false := beq_eq_false_iff_ne.mpr c75
           have c75b1 : ((Int.tmod x4_1 2) != 0) = true := bne_iff_ne.mpr c75
           (first | rw [c75b0] | (simp only [i64_w, i32_w]; rw [c75b0]) | skip)
           have H' := Aside0.mk H
           clear H
           as_aux_lemma =>
            go_wp2
            go_meet
            case rel => exact ⟨_, (((Int.tmod (wrap64 ((wrap64 ((l0.length : Int) - x4_1)) - 1)) 2) == 0)), cl, H', ⟨by have := HK1.out; have := HK2.out; first | omega | exact Nat.le_refl _⟩, ⟨by (with_reducible repeat (first | refine blk_drewN ?_ _ | refine blk_drew ?_ | refine blk_alloc ?_ _)); exact BK432.out⟩, ⟨by (with_reducible repeat (first | refine blk_drewN ?_ _ | refine blk_drew ?_ | refine blk_alloc ?_ _)); exact BK435.out⟩, ⟨by repeat (first | (with_reducible first | exact HB.out | apply below_alloc | apply pw_below_drewN | apply below_drew1 | refine below_set ?_ GE432.out | refine below_set ?_ GE435.out) | exact HB.out)⟩⟩
         case rest =>
          clear HC74
          try clear c1
          try clear c2
          try clear p2
          try clear c3
          try clear c3b0
          try clear c4
          try clear c4b0
          try clear p4
          try clear q4
          try clear hx4
          try clear c5
          try clear c5b0
          try clear c5b1
          try clear c6
          try clear c6b0
          try clear c6b1
          try clear p6
          try clear c7
          try clear c7b0
          try clear c8
          try clear c8b0
          try clear c11
          try clear c13
          try clear c13b0
          try clear c14
          try clear c14b0
          try clear c17
          try clear c18
          try clear c20
          try clear c20b0
          try clear c22
          try clear c22b0
          try clear c22b1
          try clear c23
          try clear c23b0
          try clear c23b1
          try clear c24
          try clear c24b0
          try clear c24b1
          try clear c25
          try clear c26
          try clear c28
          try clear c29
          try clear c31
          try clear c32
          try clear c33
          try clear c36
          try clear c36b0
          try clear c36b1
          try clear c37
          try clear c37b0
          try clear c37b1
          try clear c38
          try clear c38b0
          try clear c38b1
          try clear c39
          try clear c40
          try clear c42
          try clear c42b0
          try clear c43
          try clear p43
          try clear q43
          try clear hx43
          try clear c44
          try clear c46
          try clear c47
          try clear c49
          try clear c50
          try clear c51
          try clear c53
          try clear c53b0
          try clear c54
          try clear c54b0
          try clear c54b1
          try clear c54b2
          try clear c55
          try clear c55b0
          try clear c56
          try clear c56b0
          try clear c56b1
          try clear c56b2
          try clear c57
          try clear c58
          try clear c60
          try clear c62
          try clear c63
          try clear p64
          try clear c65
          try clear c67
          try clear c67b0
          try clear c68
          try clear c68b0
          try clear c68b1
          try clear c68b2
          try clear c69
          try clear c70
          try clear c72
          try clear c75
          try clear c75b0
          try clear c75b1
          try clear hcz12_0
          try clear hcz12_1
          try clear hcz19_0
          try clear hcz19_1
          try clear hcz27_0
          try clear hcz27_1
          try clear hcz30_0
          try clear hcz30_1
          try clear hcz34_0
          try clear hcz34_1
          try clear hcz41_0
          try clear hcz41_1
          try clear hcz45_0
          try clear hcz45_1
          try clear hcz48_0
          try clear hcz48_1
          try clear hcz52_0
          try clear hcz52_1
          try clear hcz59_0
          try clear hcz59_1
          try clear hcz61_0
          try clear hcz61_1
          try clear hcz64_0
          try clear hcz64_1
          try clear hcz66_0
          try clear hcz66_1
          try clear hcz71_0
          try clear hcz71_1
          try clear hcz73_0
          try clear hcz73_1
          try clear hcz9_0
          try clear hcz9_1
          try clear hfz12_0
          try clear hfz12_1
          try clear hfz19_0
          try clear hfz19_1
          try clear hfz27_0
          try clear hfz27_1
          try clear hfz30_0
          try clear hfz30_1
          try clear hfz34_0
          try clear hfz34_1
          try clear hfz41_0
          try clear hfz41_1
          try clear hfz45_0
          try clear hfz45_1
          try clear hfz48_0
          try clear hfz48_1
          try clear hfz52_0
          try clear hfz52_1
          try clear hfz59_0
          try clear hfz59_1
          try clear hfz61_0
          try clear hfz61_1
          try clear hfz64_0
          try clear hfz64_1
          try clear hfz66_0
          try clear hfz66_1
          try clear hfz71_0
          try clear hfz71_1
          try clear hfz73_0
          try clear hfz73_1
          try clear hfz9_0
          try clear hfz9_1
          try clear hx433_0
          try clear hx433_1
          try clear hx434_0
          try clear hx434_1
          try clear hx436_0
          try clear hx436_1
          try clear p2
          try clear p4
          try clear p43
          try clear p433
          try clear p434
          try clear p436
          try clear p6
          try clear q4
          try clear q43
          try clear q433
          try clear q434
          try clear q436
          obtain ⟨kq, x130_73, rfl, HA, HJ73, BK432, BK435, HB⟩ := hcut
          cases kq with
          | zero => exact absurd HA.out (by simp [bulletinref13_Of.j5])
          | succ kj73 =>
           have H := HA.out
           clear HA
           simp only [bulletinref13_Of.j5] at H
           by_cases c76 : x130_73 = true
           ·subst c76
            have H1 : (some ((⟨#[]⟩ : ByteArray), (⟨#[]⟩ : ByteArray), 130)) = some (r1, r2, r3) := by rw [if_pos rfl] at H; exact H
            clear H
            have H := H1
            clear H1
            simp only [Option.some.injEq, Prod.mk.injEq] at H
            obtain ⟨rfl, rfl, rfl⟩ := H
            have hnb77 := NB432_435.out
            have hnc77 := NB435_432.out
            have hcz78_0 : wc.cell? ⟨gb432, 0, none⟩ = some (.string x433000_2) := (blk_cell BK432.out 0).trans rfl
            have hcz78_1 : wc.cell? ⟨gb432, 1, none⟩ = some (.string x433001_2) := (blk_cell BK432.out 1).trans rfl
            have hfz78_0 := blk_frozen BK432.out 0
            have hfz78_1 := blk_frozen BK432.out 1
            as_aux_lemma =>
             go_wp2
             refine bodyPost_ret (results_ct rfl _ _ gb432 31 #[.string (⟨#[]⟩ : ByteArray), .string (⟨#[]⟩ : ByteArray)] (0, 0) _ rfl (by (with_reducible repeat (first | refine blk_drewN ?_ _ | refine blk_drew ?_ | refine blk_alloc ?_ _)); refine blk_put (cs := #[.string (⟨#[]⟩ : ByteArray), .string x433001_2]) ?_ 1 _ rfl; (with_reducible repeat (first | refine blk_drewN ?_ _ | refine blk_drew ?_ | refine blk_alloc ?_ _)); refine blk_put (cs := #[.string x433000_2, .string x433001_2]) ?_ 0 _ rfl; (with_reducible repeat (first | refine blk_drewN ?_ _ | refine blk_drew ?_ | refine blk_alloc ?_ _)); exact BK432.out) Tryd.underlying31 rfl (by kernel_rfl)) rfl ?_
             exact ⟨by first | rfl | (simp [errW_none, errW_some] <;> rfl) | (simp [*, errW_none, errW_some] <;> rfl), by repeat (first | (with_reducible first | exact HB.out | apply below_alloc | apply pw_below_drewN | apply below_drew1 | refine below_set ?_ GE432.out | refine below_set ?_ GE435.out) | exact HB.out)⟩
           ·replace c76 := Bool.eq_false_iff.mpr c76
            subst c76
            have H1 : ((bulletinref06_Fold.f kj73 x436001_2).bind fun t438 => ((bulletinref13_Why.f kj73 x436000_2 t438).bind fun t439 => (if t439 = 0 then (some (x436000_2, t438, 0)) else (some ((⟨#[]⟩ : ByteArray), (⟨#[]⟩ : ByteArray), t439))))) = some (r1, r2, r3) := by rw [if_neg (show ¬ (false = true) by decide)] at H; exact H
            clear H
            have H := H1
            clear H1
            replace H := Option.bind_eq_some_iff.mp H
            obtain ⟨t438, A790, H⟩ := H
            replace H : ((bulletinref13_Why.f kj73 x436000_2 t438).bind fun t439 => (if t439 = 0 then (some (x436000_2, t438, 0)) else (some ((⟨#[]⟩ : ByteArray), (⟨#[]⟩ : ByteArray), t439)))) = some (r1, r2, r3) := H
            have A79 := Aside0.mk A790
            clear A790
            replace H := Option.bind_eq_some_iff.mp H
            obtain ⟨t439, A800, H⟩ := H
            replace H : (if t439 = 0 then (some (x436000_2, t438, 0)) else (some ((⟨#[]⟩ : ByteArray), (⟨#[]⟩ : ByteArray), t439))) = some (r1, r2, r3) := H
            have A80 := Aside0.mk A800
            clear A800
            by_cases c81 : t439 = 0
            ·rw [if_pos c81] at H
             have c81b0 : (t439 == 0) = true := beq_iff_eq.mpr c81
             have c81b1 : (t439 != 0) = false := bne_eq_false_iff_eq.mpr c81
             clear c81
             simp only [Option.some.injEq, Prod.mk.injEq] at H
             obtain ⟨rfl, rfl, rfl⟩ := H
             have hnb82 := NB435_432.out
             have hnc82 := NB432_435.out
             have hcz83_0 : wc.cell? ⟨gb435, 0, none⟩ = some (.string x436000_2) := (blk_cell BK435.out 0).trans rfl
             have hcz83_1 : wc.cell? ⟨gb435, 1, none⟩ = some (.string x436001_2) := (blk_cell BK435.out 1).trans rfl
             have hfz83_0 := blk_frozen BK435.out 0
             have hfz83_1 := blk_frozen BK435.out 1
             as_aux_lemma =>
              go_wp2_with (first | ((with_reducible refine gate_callee (f := 78) rfl ?_); refine goesL_ (some 134) rfl rfl Tryd.func78 (by kernel_rfl) rfl #[.string x436001_2] rfl am ?_; (with_reducible refine (bulletinref06_Fold.calls kj73 x436001_2 t438 _ A79.out).mono ?_); rintro e w84 ⟨rfl, hb⟩; refine ⟨_, rfl, ?_⟩; have n0_ := Aside0.mk (blk_below (g := gb432) (o := .cells #[.string x433000_2, .string x433001_2] 31 (0, 0)) bk hb); have n1_ := Aside0.mk (blk_below (g := gb435) (o := .cells #[.string x436000_2, .string x436001_2] 31 (0, 0)) bk hb); have n2_ := Aside0.mk (below_step (by repeat (first | (with_reducible first | exact HB.out | apply below_alloc | apply pw_below_drewN | apply below_drew1 | refine below_set ?_ GE432.out | refine below_set ?_ GE435.out) | exact HB.out)) hb); clear BK432; clear BK435; clear HB; have BK432 := n0_; have BK435 := n1_; have HB := n2_; clear n0_ n1_ n2_; (try clear hb); (try clear hb2); (try clear hk); (try clear hi); have hcz85_0 : w84.cell? ⟨gb435, 0, none⟩ = some (.string x436000_2) := (blk_cell BK435.out 0).trans rfl; have hcz85_1 : w84.cell? ⟨gb435, 1, none⟩ = some (.string x436001_2) := (blk_cell BK435.out 1).trans rfl; have hfz85_0 := blk_frozen BK435.out 0; have hfz85_1 := blk_frozen BK435.out 1) | ((with_reducible refine gate_callee (f := 81) rfl ?_); refine goesL_ (some 137) rfl rfl Tryd.func81 (by kernel_rfl) rfl #[.agg #[.string x436000_2, .string t438]] rfl am ?_; (with_reducible refine (bulletinref13_Why.calls kj73 x436000_2 t438 t439 _ A80.out).mono ?_); rintro e w86 ⟨rfl, hb⟩; refine ⟨_, rfl, ?_⟩; have n0_ := Aside0.mk (blk_below (g := gb432) (o := .cells #[.string x433000_2, .string x433001_2] 31 (0, 0)) (by (with_reducible repeat (first | refine blk_drewN ?_ _ | refine blk_drew ?_ | refine blk_alloc ?_ _)); refine blk_far ?_ NB432_435.out _; (with_reducible repeat (first | refine blk_drewN ?_ _ | refine blk_drew ?_ | refine blk_alloc ?_ _)); exact BK432.out) hb); have n1_ := Aside0.mk (blk_below (g := gb435) (o := .cells #[.string x436000_2, .string t438] 31 (0, 0)) (by (with_reducible repeat (first | refine blk_drewN ?_ _ | refine blk_drew ?_ | refine blk_alloc ?_ _)); refine blk_put (cs := #[.string x436000_2, .string x436001_2]) ?_ 1 _ rfl; (with_reducible repeat (first | refine blk_drewN ?_ _ | refine blk_drew ?_ | refine blk_alloc ?_ _)); exact BK435.out) hb); have n2_ := Aside0.mk (below_step (by repeat (first | (with_reducible first | exact HB.out | apply below_alloc | apply pw_below_drewN | apply below_drew1 | refine below_set ?_ GE432.out | refine below_set ?_ GE435.out) | exact HB.out)) hb); clear BK432; clear BK435; clear HB; have BK432 := n0_; have BK435 := n1_; have HB := n2_; clear n0_ n1_ n2_; (try clear hb); (try clear hb2); (try clear hk); (try clear hi); have hcz87_0 : w86.cell? ⟨gb435, 0, none⟩ = some (.string x436000_2) := (blk_cell BK435.out 0).trans rfl; have hcz87_1 : w86.cell? ⟨gb435, 1, none⟩ = some (.string t438) := (blk_cell BK435.out 1).trans rfl; have hfz87_0 := blk_frozen BK435.out 0; have hfz87_1 := blk_frozen BK435.out 1; have hcz88_0 : w86.cell? ⟨gb432, 0, none⟩ = some (.string x433000_2) := (blk_cell BK432.out 0).trans rfl; have hcz88_1 : w86.cell? ⟨gb432, 1, none⟩ = some (.string x433001_2) := (blk_cell BK432.out 1).trans rfl; have hfz88_0 := blk_frozen BK432.out 0; have hfz88_1 := blk_frozen BK432.out 1))
              refine bodyPost_ret (results_ct rfl _ _ gb432 31 #[.string x436000_2, .string t438] (0, 0) _ rfl (by (with_reducible repeat (first | refine blk_drewN ?_ _ | refine blk_drew ?_ | refine blk_alloc ?_ _)); refine blk_put (cs := #[.string x436000_2, .string x433001_2]) ?_ 1 _ rfl; (with_reducible repeat (first | refine blk_drewN ?_ _ | refine blk_drew ?_ | refine blk_alloc ?_ _)); refine blk_put (cs := #[.string x433000_2, .string x433001_2]) ?_ 0 _ rfl; (with_reducible repeat (first | refine blk_drewN ?_ _ | refine blk_drew ?_ | refine blk_alloc ?_ _)); exact BK432.out) Tryd.underlying31 rfl (by kernel_rfl)) rfl ?_
              exact ⟨by first | rfl | (simp [errW_none, errW_some] <;> rfl) | (simp [*, errW_none, errW_some] <;> rfl), by repeat (first | (with_reducible first | exact HB.out | apply below_alloc | apply pw_below_drewN | apply below_drew1 | refine below_set ?_ GE432.out | refine below_set ?_ GE435.out) | exact HB.out)⟩
            ·rw [if_neg c81] at H
             have c81b0 : (t439 == 0) = false := beq_eq_false_iff_ne.mpr c81
             have c81b1 : (t439 != 0) = true := bne_iff_ne.mpr c81
             simp only [Option.some.injEq, Prod.mk.injEq] at H
             obtain ⟨rfl, rfl, rfl⟩ := H
             have hnb89 := NB435_432.out
             have hnc89 := NB432_435.out
             have hcz90_0 : wc.cell? ⟨gb435, 0, none⟩ = some (.string x436000_2) := (blk_cell BK435.out 0).trans rfl
             have hcz90_1 : wc.cell? ⟨gb435, 1, none⟩ = some (.string x436001_2) := (blk_cell BK435.out 1).trans rfl
             have hfz90_0 := blk_frozen BK435.out 0
             have hfz90_1 := blk_frozen BK435.out 1
             as_aux_lemma =>
              go_wp2_with (first | ((with_reducible refine gate_callee (f := 78) rfl ?_); refine goesL_ (some 134) rfl rfl Tryd.func78 (by kernel_rfl) rfl #[.string x436001_2] rfl am ?_; (with_reducible refine (bulletinref06_Fold.calls kj73 x436001_2 t438 _ A79.out).mono ?_); rintro e w91 ⟨rfl, hb⟩; refine ⟨_, rfl, ?_⟩; have n0_ := Aside0.mk (blk_below (g := gb432) (o := .cells #[.string x433000_2, .string x433001_2] 31 (0, 0)) bk hb); have n1_ := Aside0.mk (blk_below (g := gb435) (o := .cells #[.string x436000_2, .string x436001_2] 31 (0, 0)) bk hb); have n2_ := Aside0.mk (below_step (by repeat (first | (with_reducible first | exact HB.out | apply below_alloc | apply pw_below_drewN | apply below_drew1 | refine below_set ?_ GE432.out | refine below_set ?_ GE435.out) | exact HB.out)) hb); clear BK432; clear BK435; clear HB; have BK432 := n0_; have BK435 := n1_; have HB := n2_; clear n0_ n1_ n2_; (try clear hb); (try clear hb2); (try clear hk); (try clear hi); have hcz92_0 : w91.cell? ⟨gb435, 0, none⟩ = some (.string x436000_2) := (blk_cell BK435.out 0).trans rfl; have hcz92_1 : w91.cell? ⟨gb435, 1, none⟩ = some (.string x436001_2) := (blk_cell BK435.out 1).trans rfl; have hfz92_0 := blk_frozen BK435.out 0; have hfz92_1 := blk_frozen BK435.out 1) | ((with_reducible refine gate_callee (f := 81) rfl ?_); refine goesL_ (some 137) rfl rfl Tryd.func81 (by kernel_rfl) rfl #[.agg #[.string x436000_2, .string t438]] rfl am ?_; (with_reducible refine (bulletinref13_Why.calls kj73 x436000_2 t438 t439 _ A80.out).mono ?_); rintro e w93 ⟨rfl, hb⟩; refine ⟨_, rfl, ?_⟩; have n0_ := Aside0.mk (blk_below (g := gb432) (o := .cells #[.string x433000_2, .string x433001_2] 31 (0, 0)) (by (with_reducible repeat (first | refine blk_drewN ?_ _ | refine blk_drew ?_ | refine blk_alloc ?_ _)); refine blk_far ?_ NB432_435.out _; (with_reducible repeat (first | refine blk_drewN ?_ _ | refine blk_drew ?_ | refine blk_alloc ?_ _)); exact BK432.out) hb); have n1_ := Aside0.mk (blk_below (g := gb435) (o := .cells #[.string x436000_2, .string t438] 31 (0, 0)) (by (with_reducible repeat (first | refine blk_drewN ?_ _ | refine blk_drew ?_ | refine blk_alloc ?_ _)); refine blk_put (cs := #[.string x436000_2, .string x436001_2]) ?_ 1 _ rfl; (with_reducible repeat (first | refine blk_drewN ?_ _ | refine blk_drew ?_ | refine blk_alloc ?_ _)); exact BK435.out) hb); have n2_ := Aside0.mk (below_step (by repeat (first | (with_reducible first | exact HB.out | apply below_alloc | apply pw_below_drewN | apply below_drew1 | refine below_set ?_ GE432.out | refine below_set ?_ GE435.out) | exact HB.out)) hb); clear BK432; clear BK435; clear HB; have BK432 := n0_; have BK435 := n1_; have HB := n2_; clear n0_ n1_ n2_; (try clear hb); (try clear hb2); (try clear hk); (try clear hi); have hcz94_0 : w93.cell? ⟨gb432, 0, none⟩ = some (.string x433000_2) := (blk_cell BK432.out 0).trans rfl; have hcz94_1 : w93.cell? ⟨gb432, 1, none⟩ = some (.string x433001_2) := (blk_cell BK432.out 1).trans rfl; have hfz94_0 := blk_frozen BK432.out 0; have hfz94_1 := blk_frozen BK432.out 1))
              refine bodyPost_ret (results_ct rfl _ _ gb432 31 #[.string (⟨#[]⟩ : ByteArray), .string (⟨#[]⟩ : ByteArray)] (0, 0) _ rfl (by (with_reducible repeat (first | refine blk_drewN ?_ _ | refine blk_drew ?_ | refine blk_alloc ?_ _)); refine blk_put (cs := #[.string (⟨#[]⟩ : ByteArray), .string x433001_2]) ?_ 1 _ rfl; (with_reducible repeat (first | refine blk_drewN ?_ _ | refine blk_drew ?_ | refine blk_alloc ?_ _)); refine blk_put (cs := #[.string x433000_2, .string x433001_2]) ?_ 0 _ rfl; (with_reducible repeat (first | refine blk_drewN ?_ _ | refine blk_drew ?_ | refine blk_alloc ?_ _)); exact BK432.out) Tryd.underlying31 rfl (by kernel_rfl)) rfl ?_
              exact ⟨by first | rfl | (simp [errW_none, errW_some] <;> rfl) | (simp [*, errW_none, errW_some] <;> rfl), by repeat (first | (with_reducible first | exact HB.out | apply below_alloc | apply pw_below_drewN | apply below_drew1 | refine below_set ?_ GE432.out | refine below_set ?_ GE435.out) | exact HB.out)⟩

end Go.Proofs.YtlomcmdbbnbciaaDoor.Fn
-- written by xprint.py of this session over the kit's printer; not trusted: Lean checks it
namespace Go.Proofs.YtlomcmdbbnbciaaDoor.Fn
open Go.RowKit Go.Proofs.YtlomcmdbbnbciaaDoorW.PrintWords Go.Proofs.YtlomcmdbbnbciaaDoorW.PrintLast Go.Proofs.YtlomcmdbbnbciaaDoorW.PrintMore
attribute [local go_sem] max2_int min2_int max_two min_two max_three min_three max_four min_four   -- for this text's walks alone
set_option linter.unusedVariables false
set_option linter.unusedSimpArgs false

/-! ### bulletinref13_Parse: function 37 -/
def bulletinref13_Parse.f (k : Nat) (a0 : ByteArray) : Option (ByteArray × ByteArray × Int) := (bulletinref12_Scan.f k a0).bind fun bt441 => (if bt441.2 = 0 then ((bulletinref13_Of.f k bt441.1).bind fun bt445 => (some (bt445.1, bt445.2.1, bt445.2.2))) else (some ((⟨#[]⟩ : ByteArray), (⟨#[]⟩ : ByteArray), 130)))
set_option maxHeartbeats 8000000 in
set_option maxRecDepth 100000 in
theorem bulletinref13_Parse.calls (k : Nat) (a0 : ByteArray) (r1 : ByteArray) (r2 : ByteArray) (r3 : Int) (w : World) (h : bulletinref13_Parse.f k a0 = some (r1, r2, r3)) :
  Calls Tryd.prog 37 #[.string a0] w fun e w' => e = .returned (.tuple #[.agg #[.string r1, .string r2], .int .i64 r3]) ∧ Below w.heap.size w w' := by
 have hu31 := Tryd.underlying31
 have HB := Aside0.mk (Below.refl w.heap.size w)
 have H : ((bulletinref12_Scan.f k a0).bind fun bt441 => (if bt441.2 = 0 then ((bulletinref13_Of.f k bt441.1).bind fun bt445 => (some (bt445.1, bt445.2.1, bt445.2.2))) else (some ((⟨#[]⟩ : ByteArray), (⟨#[]⟩ : ByteArray), 130)))) = some (r1, r2, r3) := h
 clear h
 replace H := Option.bind_eq_some_iff.mp H
 obtain ⟨⟨t441, t442⟩, A20, H⟩ := H
 replace H : (if t442 = 0 then ((bulletinref13_Of.f k t441).bind fun bt445 => (some (bt445.1, bt445.2.1, bt445.2.2))) else (some ((⟨#[]⟩ : ByteArray), (⟨#[]⟩ : ByteArray), 130))) = some (r1, r2, r3) := H
 have A2 := Aside0.mk A20
 clear A20
 by_cases c3 : t442 = 0
 ·rw [if_pos c3] at H
  have c3b0 : (t442 == 0) = true := beq_iff_eq.mpr c3
  have c3b1 : (t442 != 0) = false := bne_eq_false_iff_eq.mpr c3
  clear c3
  replace H := Option.bind_eq_some_iff.mp H
  obtain ⟨⟨t445, t446, t447⟩, A40, H⟩ := H
  replace H : (some (t445, t446, t447)) = some (r1, r2, r3) := H
  have A4 := Aside0.mk A40
  clear A40
  simp only [Option.some.injEq, Prod.mk.injEq] at H
  obtain ⟨rfl, rfl, rfl⟩ := H
  go_enter Tryd.func37, Tryd.ntmps37
  go_wp2_with (first | ((with_reducible refine gate_dst (N := 2) rfl ?_); refine box_event ?hg (N := 2) ?hd (cs := #[.string (⟨#[]⟩ : ByteArray), .string (⟨#[]⟩ : ByteArray)]) (t := 31) ?hr ?_; (case hd => rfl); (case hg => rfl); (case hr => first | (go_simp; done) | (go_simp; rfl)); intro gb440 hg w5 hbox hb; have n0_ := Aside0.mk (below_step bw hb); have n1_ := Aside0.mk (hbox); have n2_ := Aside0.mk ((by rw [hg]; exact (below_size bw) : w.heap.size ≤ gb440)); have n3_ := Aside0.mk ((by rw [hg]; exact (below_size bw) : w.heap.size ≤ gb440)); clear HB; have HB := n0_; have BK440 := n1_; have GW440 := n2_; have GE440 := n3_; clear n0_ n1_ n2_ n3_; clear hb hbox hg) | ((with_reducible refine gate_callee (f := 87) rfl ?_); refine goesL_ (some 8) rfl rfl Tryd.func87 (by kernel_rfl) rfl #[.string a0] rfl am ?_; (with_reducible refine (bulletinref12_Scan.calls k a0 t441 t442 _ A2.out).mono ?_); rintro e w6 ⟨v443, rfl, ho0, hb⟩; refine ⟨_, rfl, ?_⟩; have n0_ := Aside0.mk (Kd.R_lower ho0 (below_size bwS)); have n1_ := Aside0.mk (blk_below (g := gb440) (o := .cells #[.string (⟨#[]⟩ : ByteArray), .string (⟨#[]⟩ : ByteArray)] 31 (0, 0)) bk hb); have n2_ := Aside0.mk (below_step bwS hb); clear BK440; clear HB; have HO444 := n0_; have BK440 := n1_; have HB := n2_; clear n0_ n1_ n2_; (try clear hb); (try clear hb2); (try clear hk); (try clear hi); (try clear ho0); obtain ⟨Ao7, co7, eo7⟩ := Kd.R_slice HO444.out; subst eo7) | ((with_reducible refine gate_callee (f := 88) rfl ?_); refine goesL_ (some 15) rfl rfl Tryd.func88 (by kernel_rfl) rfl #[.slice Ao7 t441.length co7] rfl am ?_; (with_reducible refine (bulletinref13_Of.calls k _ _ t441 t445 t446 t447 _ ?side1 ?side2 A4.out).mono ?_); (case side1 => repeat (first | exact (Kd.R_reads' HO444.out).2.2 | (with_reducible refine Kd.C_alloc ?_ _) | (with_reducible refine Kd.C_drewN ?_ _) | (with_reducible refine Kd.C_drew ?_))); (case side2 => exact (Kd.R_reads' HO444.out).2.1); rintro e w8 ⟨rfl, hb⟩; refine ⟨_, rfl, ?_⟩; have n0_ := Aside0.mk (Kd.R_below (by (with_reducible repeat (first | apply Kd.R_alloc | apply Kd.R_drewN | apply Kd.R_drew)); exact HO444.out) hb); have n1_ := Aside0.mk (blk_below (g := gb440) (o := .cells #[.string (⟨#[]⟩ : ByteArray), .string (⟨#[]⟩ : ByteArray)] 31 (0, 0)) bk hb); have n2_ := Aside0.mk (below_step bwS hb); clear HO444; clear BK440; clear HB; have HO444 := n0_; have BK440 := n1_; have HB := n2_; clear n0_ n1_ n2_; (try clear hb); (try clear hb2); (try clear hk); (try clear hi); have hcz9_0 : w8.cell? ⟨gb440, 0, none⟩ = some (.string (⟨#[]⟩ : ByteArray)) := (blk_cell BK440.out 0).trans rfl; have hcz9_1 : w8.cell? ⟨gb440, 1, none⟩ = some (.string (⟨#[]⟩ : ByteArray)) := (blk_cell BK440.out 1).trans rfl; have hfz9_0 := blk_frozen BK440.out 0; have hfz9_1 := blk_frozen BK440.out 1))
  refine bodyPost_ret (results_ct rfl _ _ gb440 31 #[.string t445, .string t446] (0, 0) _ rfl (by (with_reducible repeat (first | refine blk_drewN ?_ _ | refine blk_drew ?_ | refine blk_alloc ?_ _)); refine blk_put (cs := #[.string t445, .string (⟨#[]⟩ : ByteArray)]) ?_ 1 _ rfl; (with_reducible repeat (first | refine blk_drewN ?_ _ | refine blk_drew ?_ | refine blk_alloc ?_ _)); refine blk_put (cs := #[.string (⟨#[]⟩ : ByteArray), .string (⟨#[]⟩ : ByteArray)]) ?_ 0 _ rfl; (with_reducible repeat (first | refine blk_drewN ?_ _ | refine blk_drew ?_ | refine blk_alloc ?_ _)); exact BK440.out) Tryd.underlying31 rfl (by kernel_rfl)) rfl ?_
  exact ⟨by first | rfl | (simp [errW_none, errW_some] <;> rfl) | (simp [*, errW_none, errW_some] <;> rfl), by repeat (first | (with_reducible first | exact HB.out | apply below_alloc | apply pw_below_drewN | apply below_drew1 | refine below_set ?_ GE440.out) | exact HB.out)⟩
 ·rw [if_neg c3] at H
  have c3b0 : (t442 == 0) = false := beq_eq_false_iff_ne.mpr c3
  have c3b1 : (t442 != 0) = true := bne_iff_ne.mpr c3
  simp only [Option.some.injEq, Prod.mk.injEq] at H
  obtain ⟨rfl, rfl, rfl⟩ := H
  go_enter Tryd.func37, Tryd.ntmps37
  go_wp2_with (first | ((with_reducible refine gate_dst (N := 2) rfl ?_); refine box_event ?hg (N := 2) ?hd (cs := #[.string (⟨#[]⟩ : ByteArray), .string (⟨#[]⟩ : ByteArray)]) (t := 31) ?hr ?_; (case hd => rfl); (case hg => rfl); (case hr => first | (go_simp; done) | (go_simp; rfl)); intro gb440 hg w10 hbox hb; have n0_ := Aside0.mk (below_step bw hb); have n1_ := Aside0.mk (hbox); have n2_ := Aside0.mk ((by rw [hg]; exact (below_size bw) : w.heap.size ≤ gb440)); have n3_ := Aside0.mk ((by rw [hg]; exact (below_size bw) : w.heap.size ≤ gb440)); clear HB; have HB := n0_; have BK440 := n1_; have GW440 := n2_; have GE440 := n3_; clear n0_ n1_ n2_ n3_; clear hb hbox hg) | ((with_reducible refine gate_callee (f := 87) rfl ?_); refine goesL_ (some 8) rfl rfl Tryd.func87 (by kernel_rfl) rfl #[.string a0] rfl am ?_; (with_reducible refine (bulletinref12_Scan.calls k a0 t441 t442 _ A2.out).mono ?_); rintro e w11 ⟨v443, rfl, ho0, hb⟩; refine ⟨_, rfl, ?_⟩; have n0_ := Aside0.mk (Kd.R_lower ho0 (below_size bwS)); have n1_ := Aside0.mk (blk_below (g := gb440) (o := .cells #[.string (⟨#[]⟩ : ByteArray), .string (⟨#[]⟩ : ByteArray)] 31 (0, 0)) bk hb); have n2_ := Aside0.mk (below_step bwS hb); clear BK440; clear HB; have HO444 := n0_; have BK440 := n1_; have HB := n2_; clear n0_ n1_ n2_; (try clear hb); (try clear hb2); (try clear hk); (try clear hi); (try clear ho0); have hcz12_0 : w11.cell? ⟨gb440, 0, none⟩ = some (.string (⟨#[]⟩ : ByteArray)) := (blk_cell BK440.out 0).trans rfl; have hcz12_1 : w11.cell? ⟨gb440, 1, none⟩ = some (.string (⟨#[]⟩ : ByteArray)) := (blk_cell BK440.out 1).trans rfl; have hfz12_0 := blk_frozen BK440.out 0; have hfz12_1 := blk_frozen BK440.out 1))
  refine bodyPost_ret (results_ct rfl _ _ gb440 31 #[.string (⟨#[]⟩ : ByteArray), .string (⟨#[]⟩ : ByteArray)] (0, 0) _ rfl (by (with_reducible repeat (first | refine blk_drewN ?_ _ | refine blk_drew ?_ | refine blk_alloc ?_ _)); refine blk_put (cs := #[.string (⟨#[]⟩ : ByteArray), .string (⟨#[]⟩ : ByteArray)]) ?_ 1 _ rfl; (with_reducible repeat (first | refine blk_drewN ?_ _ | refine blk_drew ?_ | refine blk_alloc ?_ _)); refine blk_put (cs := #[.string (⟨#[]⟩ : ByteArray), .string (⟨#[]⟩ : ByteArray)]) ?_ 0 _ rfl; (with_reducible repeat (first | refine blk_drewN ?_ _ | refine blk_drew ?_ | refine blk_alloc ?_ _)); exact BK440.out) Tryd.underlying31 rfl (by kernel_rfl)) rfl ?_
  exact ⟨by first | rfl | (simp [errW_none, errW_some] <;> rfl) | (simp [*, errW_none, errW_some] <;> rfl), by repeat (first | (with_reducible first | exact HB.out | apply below_alloc | apply pw_below_drewN | apply below_drew1 | refine below_set ?_ GE440.out) | exact HB.out)⟩

end Go.Proofs.YtlomcmdbbnbciaaDoor.Fn
-- written by xprint.py of this session over the kit's printer; not trusted: Lean checks it
namespace Go.Proofs.YtlomcmdbbnbciaaDoor.Fn
open Go.RowKit Go.Proofs.YtlomcmdbbnbciaaDoorW.PrintWords Go.Proofs.YtlomcmdbbnbciaaDoorW.PrintLast Go.Proofs.YtlomcmdbbnbciaaDoorW.PrintMore
attribute [local go_sem] max2_int min2_int max_two min_two max_three min_three max_four min_four   -- for this text's walks alone
set_option linter.unusedVariables false
set_option linter.unusedSimpArgs false

/-! ### bulletinref13_Key: function 31 -/
def bulletinref13_Key.f (k : Nat) (a0_0 : ByteArray) (a0_1 : ByteArray) : Option (ByteArray) := (bulletinref13_Text.f k a0_0 a0_1).bind fun t381 => ((bulletinref06_Fold.f k t381).bind fun t382 => (some t382))
set_option maxHeartbeats 8000000 in
set_option maxRecDepth 100000 in
theorem bulletinref13_Key.calls (k : Nat) (a0_0 : ByteArray) (a0_1 : ByteArray) (r : ByteArray) (w : World) (h : bulletinref13_Key.f k a0_0 a0_1 = some r) :
  Calls Tryd.prog 31 #[.agg #[.string a0_0, .string a0_1]] w fun e w' => e = .returned (.string r) ∧ Below w.heap.size w w' := by
 have hu31 := Tryd.underlying31
 have HB := Aside0.mk (Below.refl w.heap.size w)
 have H : ((bulletinref13_Text.f k a0_0 a0_1).bind fun t381 => ((bulletinref06_Fold.f k t381).bind fun t382 => (some t382))) = some r := h
 clear h
 replace H := Option.bind_eq_some_iff.mp H
 obtain ⟨t381, A20, H⟩ := H
 replace H : ((bulletinref06_Fold.f k t381).bind fun t382 => (some t382)) = some r := H
 have A2 := Aside0.mk A20
 clear A20
 replace H := Option.bind_eq_some_iff.mp H
 obtain ⟨t382, A30, H⟩ := H
 replace H : (some t382) = some r := H
 have A3 := Aside0.mk A30
 clear A30
 obtain rfl := Option.some.inj H
 go_enter Tryd.func31, Tryd.ntmps31
 go_wp2_with (first | ((with_reducible refine gate_dst (N := 1) rfl ?_); refine box_event ?hg (N := 1) ?hd (cs := #[.string a0_0, .string a0_1]) (t := 31) ?hr ?_; (case hd => rfl); (case hg => rfl); (case hr => first | (go_simp; done) | (go_simp; rfl)); intro gb380 hg w4 hbox hb; have n0_ := Aside0.mk (below_step bw hb); have n1_ := Aside0.mk (hbox); have n2_ := Aside0.mk ((by rw [hg]; exact (below_size bw) : w.heap.size ≤ gb380)); have n3_ := Aside0.mk ((by rw [hg]; exact (below_size bw) : w.heap.size ≤ gb380)); clear HB; have HB := n0_; have BK380 := n1_; have GW380 := n2_; have GE380 := n3_; clear n0_ n1_ n2_ n3_; clear hb hbox hg; have hcz5_0 : w4.cell? ⟨gb380, 0, none⟩ = some (.string a0_0) := (blk_cell BK380.out 0).trans rfl; have hcz5_1 : w4.cell? ⟨gb380, 1, none⟩ = some (.string a0_1) := (blk_cell BK380.out 1).trans rfl; have hfz5_0 := blk_frozen BK380.out 0; have hfz5_1 := blk_frozen BK380.out 1) | ((with_reducible refine gate_callee (f := 30) rfl ?_); refine goesL_ (some 4) rfl rfl Tryd.func30 (by kernel_rfl) rfl #[.agg #[.string a0_0, .string a0_1]] rfl am ?_; (with_reducible refine (bulletinref13_Text.calls k a0_0 a0_1 t381 _ A2.out).mono ?_); rintro e w6 ⟨rfl, hb⟩; refine ⟨_, rfl, ?_⟩; have n0_ := Aside0.mk (blk_below (g := gb380) (o := .cells #[.string a0_0, .string a0_1] 31 (0, 0)) bk hb); have n1_ := Aside0.mk (below_step bwS hb); clear BK380; clear HB; have BK380 := n0_; have HB := n1_; clear n0_ n1_; (try clear hb); (try clear hb2); (try clear hk); (try clear hi)) | ((with_reducible refine gate_callee (f := 78) rfl ?_); refine goesL_ (some 5) rfl rfl Tryd.func78 (by kernel_rfl) rfl #[.string t381] rfl am ?_; (with_reducible refine (bulletinref06_Fold.calls k t381 t382 _ A3.out).mono ?_); rintro e w7 ⟨rfl, hb⟩; refine ⟨_, rfl, ?_⟩; have n0_ := Aside0.mk (blk_below (g := gb380) (o := .cells #[.string a0_0, .string a0_1] 31 (0, 0)) bk hb); have n1_ := Aside0.mk (below_step bwS hb); clear BK380; clear HB; have BK380 := n0_; have HB := n1_; clear n0_ n1_; (try clear hb); (try clear hb2); (try clear hk); (try clear hi)))
 go_ret
 exact ⟨by first | rfl | (simp [errW_none, errW_some] <;> rfl) | (simp [*, errW_none, errW_some] <;> rfl), by repeat (first | (with_reducible first | exact HB.out | apply below_alloc | apply pw_below_drewN | apply below_drew1 | refine below_set ?_ GE380.out) | exact HB.out)⟩

end Go.Proofs.YtlomcmdbbnbciaaDoor.Fn
-- written by xprint.py of this session over the kit's printer; not trusted: Lean checks it
namespace Go.Proofs.YtlomcmdbbnbciaaDoor.Fn
open Go.RowKit Go.Proofs.YtlomcmdbbnbciaaDoorW.PrintWords Go.Proofs.YtlomcmdbbnbciaaDoorW.PrintLast Go.Proofs.YtlomcmdbbnbciaaDoorW.PrintMore
attribute [local go_sem] max2_int min2_int max_two min_two max_three min_three max_four min_four   -- for this text's walks alone
set_option linter.unusedVariables false
set_option linter.unusedSimpArgs false

/-! ### bulletinref13_Strict: function 38 -/
def bulletinref13_Strict.f (k : Nat) (a0 : ByteArray) : Option (ByteArray × ByteArray × Int) := (bulletinref13_Parse.f k a0).bind fun bt449 => (if bt449.2.2 = 0 then ((bulletinref06_Fold.f k a0).bind fun t453 => ((bulletinref13_Key.f k bt449.1 bt449.2.1).bind fun t454 => (if t453.toList = t454.toList then (some (bt449.1, bt449.2.1, bt449.2.2)) else (some ((⟨#[]⟩ : ByteArray), (⟨#[]⟩ : ByteArray), 130))))) else (some (bt449.1, bt449.2.1, bt449.2.2)))
def bulletinref13_Strict.T2 : Bool × List (List Nat × List Nat) := (true, [([], []), ([0], [0]), ([1], [1]), ([2], [2]), ([3, 2, 2], [2, 3]), ([2], [2]), ([5, 4, 2], [2, 5]), ([4, 6, 2], [2, 4, 6]), ([2, 7], [2, 7])])
def bulletinref13_Strict.B2 : List Nat := [0, 1, 3, 7, 15, 7, 63, 127, 255]
theorem bulletinref13_Strict.tab2 : rtab .any (opsOf Tryd.f38 2) = bulletinref13_Strict.T2 := by kernel_rfl
theorem bulletinref13_Strict.bits2 : waitsOk bulletinref13_Strict.T2.2 bulletinref13_Strict.B2 = true := by kernel_rfl
set_option maxHeartbeats 8000000 in
set_option maxRecDepth 100000 in
theorem bulletinref13_Strict.calls (k : Nat) (a0 : ByteArray) (r1 : ByteArray) (r2 : ByteArray) (r3 : Int) (w : World) (h : bulletinref13_Strict.f k a0 = some (r1, r2, r3)) :
  Calls Tryd.prog 38 #[.string a0] w fun e w' => e = .returned (.tuple #[.agg #[.string r1, .string r2], .int .i64 r3]) ∧ Below w.heap.size w w' := by
 have hu31 := Tryd.underlying31
 have HB := Aside0.mk (Below.refl w.heap.size w)
 have H : ((bulletinref13_Parse.f k a0).bind fun bt449 => (if bt449.2.2 = 0 then ((bulletinref06_Fold.f k a0).bind fun t453 => ((bulletinref13_Key.f k bt449.1 bt449.2.1).bind fun t454 => (if t453.toList = t454.toList then (some (bt449.1, bt449.2.1, bt449.2.2)) else (some ((⟨#[]⟩ : ByteArray), (⟨#[]⟩ : ByteArray), 130))))) else (some (bt449.1, bt449.2.1, bt449.2.2)))) = some (r1, r2, r3) := h
 clear h
 replace H := Option.bind_eq_some_iff.mp H
 obtain ⟨⟨t449, t450, t451⟩, A20, H⟩ := H
 replace H : (if t451 = 0 then ((bulletinref06_Fold.f k a0).bind fun t453 => ((bulletinref13_Key.f k t449 t450).bind fun t454 => (if t453.toList = t454.toList then (some (t449, t450, t451)) else (some ((⟨#[]⟩ : ByteArray), (⟨#[]⟩ : ByteArray), 130))))) else (some (t449, t450, t451))) = some (r1, r2, r3) := H
 have A2 := Aside0.mk A20
 clear A20
 by_cases c3 : t451 = 0
 ·rw [if_pos c3] at H
  have c3b0 : (t451 == 0) = true := beq_iff_eq.mpr c3
  have c3b1 : (t451 != 0) = false := bne_eq_false_iff_eq.mpr c3
  clear c3
  replace H := Option.bind_eq_some_iff.mp H
  obtain ⟨t453, A40, H⟩ := H
  replace H : ((bulletinref13_Key.f k t449 t450).bind fun t454 => (if t453.toList = t454.toList then (some (t449, t450, t451)) else (some ((⟨#[]⟩ : ByteArray), (⟨#[]⟩ : ByteArray), 130)))) = some (r1, r2, r3) := H
  have A4 := Aside0.mk A40
  clear A40
  replace H := Option.bind_eq_some_iff.mp H
  obtain ⟨t454, A50, H⟩ := H
  replace H : (if t453.toList = t454.toList then (some (t449, t450, t451)) else (some ((⟨#[]⟩ : ByteArray), (⟨#[]⟩ : ByteArray), 130))) = some (r1, r2, r3) := H
  have A5 := Aside0.mk A50
  clear A50
  by_cases c6 : t453.toList = t454.toList
  ·rw [if_pos c6] at H
   have c6b0 : (t453.toList == t454.toList) = true := beq_iff_eq.mpr c6
   have c6b1 : (t453.toList != t454.toList) = false := bne_eq_false_iff_eq.mpr c6
   clear c6
   simp only [Option.some.injEq, Prod.mk.injEq] at H
   obtain ⟨rfl, rfl, rfl⟩ := H
   go_enter Tryd.func38, Tryd.ntmps38
   try go_wp2_with (first | ((with_reducible refine gate_dst (N := 2) rfl ?_); refine box_event ?hg (N := 2) ?hd (cs := #[.string (⟨#[]⟩ : ByteArray), .string (⟨#[]⟩ : ByteArray)]) (t := 31) ?hr ?_; (case hd => rfl); (case hg => rfl); (case hr => first | (go_simp; done) | (go_simp; rfl)); intro gb448 hg w7 hbox hb; have n0_ := Aside0.mk (below_step bw hb); have n1_ := Aside0.mk (hbox); have n2_ := Aside0.mk ((by rw [hg]; exact (below_size bw) : w.heap.size ≤ gb448)); have n3_ := Aside0.mk ((by rw [hg]; exact (below_size bw) : w.heap.size ≤ gb448)); clear HB; have HB := n0_; have BK448 := n1_; have GW448 := n2_; have GE448 := n3_; clear n0_ n1_ n2_ n3_; clear hb hbox hg) | ((with_reducible refine gate_callee (f := 37) rfl ?_); refine goesL_ (some 8) rfl rfl Tryd.func37 (by kernel_rfl) rfl #[.string a0] rfl am ?_; (with_reducible refine (bulletinref13_Parse.calls k a0 t449 t450 t451 _ A2.out).mono ?_); rintro e w8 ⟨rfl, hb⟩; refine ⟨_, rfl, ?_⟩; have n0_ := Aside0.mk (blk_below (g := gb448) (o := .cells #[.string (⟨#[]⟩ : ByteArray), .string (⟨#[]⟩ : ByteArray)] 31 (0, 0)) bk hb); have n1_ := Aside0.mk (below_step bwS hb); clear BK448; clear HB; have BK448 := n0_; have HB := n1_; clear n0_ n1_; (try clear hb); (try clear hb2); (try clear hk); (try clear hi)) | ((with_reducible refine gate_dst (N := 4) rfl ?_); refine box_event ?hg (N := 4) ?hd (cs := #[.string (⟨#[]⟩ : ByteArray), .string (⟨#[]⟩ : ByteArray)]) (t := 31) ?hr ?_; (case hd => rfl); (case hg => rfl); (case hr => first | (go_simp; done) | (go_simp; rfl)); intro gb452 hg w9 hbox hb; have n0_ := Aside0.mk (blk_below (g := gb448) (o := .cells #[.string (⟨#[]⟩ : ByteArray), .string (⟨#[]⟩ : ByteArray)] 31 (0, 0)) bk hb); have n1_ := Aside0.mk (below_step bwS hb); have n2_ := Aside0.mk (hbox); have n3_ := Aside0.mk ((by rw [hg]; exact (below_size bwS) : w.heap.size ≤ gb452)); have n4_ := Aside0.mk ((by rw [hg]; exact (below_size bwS) : w.heap.size ≤ gb452)); have n5_ := Aside0.mk ((by rw [hg]; exact Nat.ne_of_lt (blk_lt (g := gb448) (o := .cells #[.string (⟨#[]⟩ : ByteArray), .string (⟨#[]⟩ : ByteArray)] 31 (0, 0)) bk) : gb448 ≠ gb452)); have n6_ := Aside0.mk ((by rw [hg]; exact Nat.ne_of_gt (blk_lt (g := gb448) (o := .cells #[.string (⟨#[]⟩ : ByteArray), .string (⟨#[]⟩ : ByteArray)] 31 (0, 0)) bk) : gb452 ≠ gb448)); clear BK448; clear HB; have BK448 := n0_; have HB := n1_; have BK452 := n2_; have GW452 := n3_; have GE452 := n4_; have NB448_452 := n5_; have NB452_448 := n6_; clear n0_ n1_ n2_ n3_ n4_ n5_ n6_; clear hb hbox hg; have hnb10 := NB452_448.out; have hnc10 := NB448_452.out; have hcz11_0 : w9.cell? ⟨gb452, 0, none⟩ = some (.string (⟨#[]⟩ : ByteArray)) := (blk_cell BK452.out 0).trans rfl; have hcz11_1 : w9.cell? ⟨gb452, 1, none⟩ = some (.string (⟨#[]⟩ : ByteArray)) := (blk_cell BK452.out 1).trans rfl; have hfz11_0 := blk_frozen BK452.out 0; have hfz11_1 := blk_frozen BK452.out 1))
   have n0_ : Aside0 (((w9.setCell ⟨gb452, 0, none⟩ (.string t449)).setCell ⟨gb452, 1, none⟩ (.string t450)).heap[gb448]? = some (.cells #[.string (⟨#[]⟩ : ByteArray), .string (⟨#[]⟩ : ByteArray)] 31 (0, 0))) := ⟨by (with_reducible repeat (first | refine blk_drewN ?_ _ | refine blk_drew ?_ | refine blk_alloc ?_ _)); refine blk_far ?_ NB448_452.out _; (with_reducible repeat (first | refine blk_drewN ?_ _ | refine blk_drew ?_ | refine blk_alloc ?_ _)); refine blk_far ?_ NB448_452.out _; (with_reducible repeat (first | refine blk_drewN ?_ _ | refine blk_drew ?_ | refine blk_alloc ?_ _)); exact BK448.out⟩
   have n1_ : Aside0 (((w9.setCell ⟨gb452, 0, none⟩ (.string t449)).setCell ⟨gb452, 1, none⟩ (.string t450)).heap[gb452]? = some (.cells #[.string t449, .string t450] 31 (0, 0))) := ⟨by (with_reducible repeat (first | refine blk_drewN ?_ _ | refine blk_drew ?_ | refine blk_alloc ?_ _)); refine blk_put (cs := #[.string t449, .string (⟨#[]⟩ : ByteArray)]) ?_ 1 _ rfl; (with_reducible repeat (first | refine blk_drewN ?_ _ | refine blk_drew ?_ | refine blk_alloc ?_ _)); refine blk_put (cs := #[.string (⟨#[]⟩ : ByteArray), .string (⟨#[]⟩ : ByteArray)]) ?_ 0 _ rfl; (with_reducible repeat (first | refine blk_drewN ?_ _ | refine blk_drew ?_ | refine blk_alloc ?_ _)); exact BK452.out⟩
   have n2_ : Aside0 (Below w.heap.size w ((w9.setCell ⟨gb452, 0, none⟩ (.string t449)).setCell ⟨gb452, 1, none⟩ (.string t450))) := ⟨by repeat (first | (with_reducible first | exact HB.out | apply below_alloc | apply pw_below_drewN | apply below_drew1 | refine below_set ?_ GE448.out | refine below_set ?_ GE452.out) | exact HB.out)⟩
   (try clear BK448)
   (try clear BK452)
   (try clear HB)
   generalize ((w9.setCell ⟨gb452, 0, none⟩ (.string t449)).setCell ⟨gb452, 1, none⟩ (.string t450)) = w12 at n0_ n1_ n2_ ⊢
   have BK448 := n0_
   have BK452 := n1_
   have HB := n2_
   clear n0_ n1_ n2_
   have n0_ := Aside0.mk (blk_drew BK448.out)
   have n1_ := Aside0.mk (blk_drew BK452.out)
   have n2_ := Aside0.mk (below_drew1 HB.out)
   clear BK448
   clear BK452
   clear HB
   have BK448 := n0_
   have BK452 := n1_
   have HB := n2_
   clear n0_ n1_ n2_
   refine start_ (n := 9) (S := fun w' => w'.cell? ⟨gb452, 0, none⟩ = some (.string t449) ∧ w'.cell? ⟨gb452, 1, none⟩ = some (.string t450)) (ds := []) #[false, false, false, false, false, false, false, false, false] (by kernel_rfl) rfl rfl ⟨(blk_cell BK452.out 0).trans rfl, (blk_cell BK452.out 1).trans rfl⟩ (fun hHeld => ?_); refine with_tabW bulletinref13_Strict.tab2 bulletinref13_Strict.bits2 (fun HT_ HW_ => ?_)
   generalize w12.drew = w13 at BK448 BK452 HB hHeld ⊢
   refine pure_ (i := 0) (N := some 11) (v := ?_) (a' := ?_) (bitsL 9 1) rfl rfl (any_of HT_.out (by kernel_rfl)) (fun _ _ _ h => h) (Or.inl ⟨by rfl, ?_⟩) ?_ ?_
   rotate_left
   ·intro w'
    go_simp
    with_reducible rfl
   rotate_left
   ·simp only [Act.put, List.setIfInBounds_toArray, List.set_cons_zero, List.set_cons_succ, i64_w, i32_w]
    rfl
   refine pure_ (i := 1) (N := some 12) (v := ?_) (a' := ?_) (bitsL 9 3) rfl rfl (any_of HT_.out (by kernel_rfl)) (fun _ _ _ h => h) (Or.inl ⟨by rfl, ?_⟩) ?_ ?_
   rotate_left
   ·intro w'
    go_simp
    with_reducible rfl
   rotate_left
   ·simp only [Act.put, List.setIfInBounds_toArray, List.set_cons_zero, List.set_cons_succ, i64_w, i32_w]
    rfl
   refine pure_ (i := 2) (N := some 13) (v := ?_) (a' := ?_) (bitsL 9 7) rfl rfl (any_of HT_.out (by kernel_rfl)) (fun _ _ _ h => h) (Or.inl ⟨by rfl, ?_⟩) ?_ ?_
   rotate_left
   ·intro w'
    go_simp
    with_reducible rfl
   rotate_left
   ·simp only [Act.put, List.setIfInBounds_toArray, List.set_cons_zero, List.set_cons_succ, i64_w, i32_w]
    rfl
   refine pure_ (i := 3) (N := some 14) (v := ?_) (a' := ?_) (bitsL 9 15) rfl rfl (any_of HT_.out (by kernel_rfl)) (fun _ _ _ h => h) (Or.inl ⟨by rfl, ?_⟩) ?_ ?_
   rotate_left
   ·intro w'
    go_simp
    with_reducible rfl
   rotate_left
   ·simp only [Act.put, List.setIfInBounds_toArray, List.set_cons_zero, List.set_cons_succ, i64_w, i32_w]
    rfl
   refine take_ (i := 5) (N := some 16) (v := ?_) (a' := ?_) (bitsL 9 47) rfl rfl (take_ofW HT_.out HW_.out (by kernel_rfl)) (fun _ _ _ h => h) (Or.inl ⟨by rfl, ?_⟩) hHeld ?_ ?_
   rotate_left
   ·rintro w' ⟨s0, s1⟩
    go_simp
    with_reducible rfl
   rotate_left
   ·simp only [Act.put, List.setIfInBounds_toArray, List.set_cons_zero, List.set_cons_succ, i64_w, i32_w]
    rfl
   refine one_ (i := 4) (N := some 15) (bitsL 9 63) rfl rfl (one_of HT_.out (by kernel_rfl)) (by decide) (fun K hK => ?_)
   refine goes_ Tryd.func78 (by kernel_rfl) rfl #[.string a0] (by rfl) rfl rfl am ?_
   with_reducible refine (bulletinref06_Fold.calls k a0 t453 _ A4.out).mono ?_
   rintro e w14 ⟨rfl, hb⟩
   refine ⟨_, rfl, ?_⟩
   have n0_ := Aside0.mk (blk_below (g := gb448) (o := .cells #[.string (⟨#[]⟩ : ByteArray), .string (⟨#[]⟩ : ByteArray)] 31 (0, 0)) bk hb)
   have n1_ := Aside0.mk (blk_below (g := gb452) (o := .cells #[.string t449, .string t450] 31 (0, 0)) bk hb)
   have n2_ := Aside0.mk (below_step (by repeat (first | (with_reducible first | exact HB.out | apply below_alloc | apply pw_below_drewN | apply below_drew1 | refine below_set ?_ GE448.out | refine below_set ?_ GE452.out) | exact HB.out)) hb)
   clear BK448
   clear BK452
   clear HB
   have BK448 := n0_
   have BK452 := n1_
   have HB := n2_
   clear n0_ n1_ n2_
   (try clear hb)
   (try clear hb2)
   (try clear hk)
   (try clear hi)
   refine hK.out _ _ ⟨(blk_cell BK452.out 0).trans rfl, (blk_cell BK452.out 1).trans rfl⟩ (fun hHeld => ?_)
   clear hK K
   refine norm_ (a' := ?_) ?_ ?_
   rotate_left
   ·show Act.put _ (some 15) _ = _
    simp only [Act.put, List.setIfInBounds_toArray, List.set_cons_zero, List.set_cons_succ, i64_w, i32_w]
    rfl
   refine one_ (i := 6) (N := some 17) (bitsL 9 127) rfl rfl (one_of HT_.out (by kernel_rfl)) (by decide) (fun K hK => ?_)
   refine goes_ Tryd.func31 (by kernel_rfl) rfl #[.agg #[.string t449, .string t450]] (by rfl) rfl rfl am ?_
   with_reducible refine (bulletinref13_Key.calls k t449 t450 t454 _ A5.out).mono ?_
   rintro e w15 ⟨rfl, hb⟩
   refine ⟨_, rfl, ?_⟩
   have n0_ := Aside0.mk (blk_below (g := gb448) (o := .cells #[.string (⟨#[]⟩ : ByteArray), .string (⟨#[]⟩ : ByteArray)] 31 (0, 0)) bk hb)
   have n1_ := Aside0.mk (blk_below (g := gb452) (o := .cells #[.string t449, .string t450] 31 (0, 0)) bk hb)
   have n2_ := Aside0.mk (below_step (by repeat (first | (with_reducible first | exact HB.out | apply below_alloc | apply pw_below_drewN | apply below_drew1 | refine below_set ?_ GE448.out | refine below_set ?_ GE452.out) | exact HB.out)) hb)
   clear BK448
   clear BK452
   clear HB
   have BK448 := n0_
   have BK452 := n1_
   have HB := n2_
   clear n0_ n1_ n2_
   (try clear hb)
   (try clear hb2)
   (try clear hk)
   (try clear hi)
   refine hK.out _ _ ⟨(blk_cell BK452.out 0).trans rfl, (blk_cell BK452.out 1).trans rfl⟩ (fun hHeld => ?_)
   clear hK K
   refine norm_ (a' := ?_) ?_ ?_
   rotate_left
   ·show Act.put _ (some 17) _ = _
    simp only [Act.put, List.setIfInBounds_toArray, List.set_cons_zero, List.set_cons_succ, i64_w, i32_w]
    rfl
   refine pure_ (i := 7) (N := some 18) (v := ?_) (a' := ?_) (bitsL 9 255) rfl rfl (any_of HT_.out (by kernel_rfl)) (fun _ _ _ h => h) (Or.inl ⟨by rfl, ?_⟩) ?_ ?_
   rotate_left
   ·intro w'
    go_simp
    with_reducible rfl
   rotate_left
   ·simp only [Act.put, List.setIfInBounds_toArray, List.set_cons_zero, List.set_cons_succ, i64_w, i32_w]
    rfl
   refine pure_ (i := 8) (N := some 19) (v := ?_) (a' := ?_) (bitsL 9 511) rfl rfl (any_of HT_.out (by kernel_rfl)) (fun _ _ _ h => h) (Or.inl ⟨by rfl, ?_⟩) ?_ ?_
   rotate_left
   ·intro w'
    go_simp
    with_reducible rfl
   rotate_left
   ·simp only [Act.put, List.setIfInBounds_toArray, List.set_cons_zero, List.set_cons_succ, i64_w, i32_w]
    rfl
   refine done_ (done_of HT_.out (by kernel_rfl)) ?_
   have hcz16_0 : w15.cell? ⟨gb452, 0, none⟩ = some (.string t449) := (blk_cell BK452.out 0).trans rfl
   have hcz16_1 : w15.cell? ⟨gb452, 1, none⟩ = some (.string t450) := (blk_cell BK452.out 1).trans rfl
   have hfz16_0 := blk_frozen BK452.out 0
   have hfz16_1 := blk_frozen BK452.out 1
   have hcz17_0 : w15.cell? ⟨gb448, 0, none⟩ = some (.string (⟨#[]⟩ : ByteArray)) := (blk_cell BK448.out 0).trans rfl
   have hcz17_1 : w15.cell? ⟨gb448, 1, none⟩ = some (.string (⟨#[]⟩ : ByteArray)) := (blk_cell BK448.out 1).trans rfl
   have hfz17_0 := blk_frozen BK448.out 0
   have hfz17_1 := blk_frozen BK448.out 1
   try go_wp2
   refine bodyPost_ret (results_ct rfl _ _ gb448 31 #[.string t449, .string t450] (0, 0) _ rfl (by (with_reducible repeat (first | refine blk_drewN ?_ _ | refine blk_drew ?_ | refine blk_alloc ?_ _)); refine blk_put (cs := #[.string t449, .string (⟨#[]⟩ : ByteArray)]) ?_ 1 _ rfl; (with_reducible repeat (first | refine blk_drewN ?_ _ | refine blk_drew ?_ | refine blk_alloc ?_ _)); refine blk_put (cs := #[.string (⟨#[]⟩ : ByteArray), .string (⟨#[]⟩ : ByteArray)]) ?_ 0 _ rfl; (with_reducible repeat (first | refine blk_drewN ?_ _ | refine blk_drew ?_ | refine blk_alloc ?_ _)); exact BK448.out) Tryd.underlying31 rfl (by kernel_rfl)) rfl ?_
   exact ⟨by first | rfl | (simp [errW_none, errW_some] <;> rfl) | (simp [*, errW_none, errW_some] <;> rfl), by repeat (first | (with_reducible first | exact HB.out | apply below_alloc | apply pw_below_drewN | apply below_drew1 | refine below_set ?_ GE448.out | refine below_set ?_ GE452.out) | exact HB.out)⟩
  ·rw [if_neg c6] at H
   have c6b0 : (t453.toList == t454.toList) = false := beq_eq_false_iff_ne.mpr c6
   have c6b1 : (t453.toList != t454.toList) = true := bne_iff_ne.mpr c6
   simp only [Option.some.injEq, Prod.mk.injEq] at H
   obtain ⟨rfl, rfl, rfl⟩ := H
   go_enter Tryd.func38, Tryd.ntmps38
   try go_wp2_with (first | ((with_reducible refine gate_dst (N := 2) rfl ?_); refine box_event ?hg (N := 2) ?hd (cs := #[.string (⟨#[]⟩ : ByteArray), .string (⟨#[]⟩ : ByteArray)]) (t := 31) ?hr ?_; (case hd => rfl); (case hg => rfl); (case hr => first | (go_simp; done) | (go_simp; rfl)); intro gb448 hg w18 hbox hb; have n0_ := Aside0.mk (below_step bw hb); have n1_ := Aside0.mk (hbox); have n2_ := Aside0.mk ((by rw [hg]; exact (below_size bw) : w.heap.size ≤ gb448)); have n3_ := Aside0.mk ((by rw [hg]; exact (below_size bw) : w.heap.size ≤ gb448)); clear HB; have HB := n0_; have BK448 := n1_; have GW448 := n2_; have GE448 := n3_; clear n0_ n1_ n2_ n3_; clear hb hbox hg) | ((with_reducible refine gate_callee (f := 37) rfl ?_); refine goesL_ (some 8) rfl rfl Tryd.func37 (by kernel_rfl) rfl #[.string a0] rfl am ?_; (with_reducible refine (bulletinref13_Parse.calls k a0 t449 t450 t451 _ A2.out).mono ?_); rintro e w19 ⟨rfl, hb⟩; refine ⟨_, rfl, ?_⟩; have n0_ := Aside0.mk (blk_below (g := gb448) (o := .cells #[.string (⟨#[]⟩ : ByteArray), .string (⟨#[]⟩ : ByteArray)] 31 (0, 0)) bk hb); have n1_ := Aside0.mk (below_step bwS hb); clear BK448; clear HB; have BK448 := n0_; have HB := n1_; clear n0_ n1_; (try clear hb); (try clear hb2); (try clear hk); (try clear hi)) | ((with_reducible refine gate_dst (N := 4) rfl ?_); refine box_event ?hg (N := 4) ?hd (cs := #[.string (⟨#[]⟩ : ByteArray), .string (⟨#[]⟩ : ByteArray)]) (t := 31) ?hr ?_; (case hd => rfl); (case hg => rfl); (case hr => first | (go_simp; done) | (go_simp; rfl)); intro gb452 hg w20 hbox hb; have n0_ := Aside0.mk (blk_below (g := gb448) (o := .cells #[.string (⟨#[]⟩ : ByteArray), .string (⟨#[]⟩ : ByteArray)] 31 (0, 0)) bk hb); have n1_ := Aside0.mk (below_step bwS hb); have n2_ := Aside0.mk (hbox); have n3_ := Aside0.mk ((by rw [hg]; exact (below_size bwS) : w.heap.size ≤ gb452)); have n4_ := Aside0.mk ((by rw [hg]; exact (below_size bwS) : w.heap.size ≤ gb452)); have n5_ := Aside0.mk ((by rw [hg]; exact Nat.ne_of_lt (blk_lt (g := gb448) (o := .cells #[.string (⟨#[]⟩ : ByteArray), .string (⟨#[]⟩ : ByteArray)] 31 (0, 0)) bk) : gb448 ≠ gb452)); have n6_ := Aside0.mk ((by rw [hg]; exact Nat.ne_of_gt (blk_lt (g := gb448) (o := .cells #[.string (⟨#[]⟩ : ByteArray), .string (⟨#[]⟩ : ByteArray)] 31 (0, 0)) bk) : gb452 ≠ gb448)); clear BK448; clear HB; have BK448 := n0_; have HB := n1_; have BK452 := n2_; have GW452 := n3_; have GE452 := n4_; have NB448_452 := n5_; have NB452_448 := n6_; clear n0_ n1_ n2_ n3_ n4_ n5_ n6_; clear hb hbox hg; have hnb21 := NB452_448.out; have hnc21 := NB448_452.out; have hcz22_0 : w20.cell? ⟨gb452, 0, none⟩ = some (.string (⟨#[]⟩ : ByteArray)) := (blk_cell BK452.out 0).trans rfl; have hcz22_1 : w20.cell? ⟨gb452, 1, none⟩ = some (.string (⟨#[]⟩ : ByteArray)) := (blk_cell BK452.out 1).trans rfl; have hfz22_0 := blk_frozen BK452.out 0; have hfz22_1 := blk_frozen BK452.out 1))
   have n0_ : Aside0 (((w20.setCell ⟨gb452, 0, none⟩ (.string t449)).setCell ⟨gb452, 1, none⟩ (.string t450)).heap[gb448]? = some (.cells #[.string (⟨#[]⟩ : ByteArray), .string (⟨#[]⟩ : ByteArray)] 31 (0, 0))) := ⟨by (with_reducible repeat (first | refine blk_drewN ?_ _ | refine blk_drew ?_ | refine blk_alloc ?_ _)); refine blk_far ?_ NB448_452.out _; (with_reducible repeat (first | refine blk_drewN ?_ _ | refine blk_drew ?_ | refine blk_alloc ?_ _)); refine blk_far ?_ NB448_452.out _; (with_reducible repeat (first | refine blk_drewN ?_ _ | refine blk_drew ?_ | refine blk_alloc ?_ _)); exact BK448.out⟩
   have n1_ : Aside0 (((w20.setCell ⟨gb452, 0, none⟩ (.string t449)).setCell ⟨gb452, 1, none⟩ (.string t450)).heap[gb452]? = some (.cells #[.string t449, .string t450] 31 (0, 0))) := ⟨by (with_reducible repeat (first | refine blk_drewN ?_ _ | refine blk_drew ?_ | refine blk_alloc ?_ _)); refine blk_put (cs := #[.string t449, .string (⟨#[]⟩ : ByteArray)]) ?_ 1 _ rfl; (with_reducible repeat (first | refine blk_drewN ?_ _ | refine blk_drew ?_ | refine blk_alloc ?_ _)); refine blk_put (cs := #[.string (⟨#[]⟩ : ByteArray), .string (⟨#[]⟩ : ByteArray)]) ?_ 0 _ rfl; (with_reducible repeat (first | refine blk_drewN ?_ _ | refine blk_drew ?_ | refine blk_alloc ?_ _)); exact BK452.out⟩
   have n2_ : Aside0 (Below w.heap.size w ((w20.setCell ⟨gb452, 0, none⟩ (.string t449)).setCell ⟨gb452, 1, none⟩ (.string t450))) := ⟨by repeat (first | (with_reducible first | exact HB.out | apply below_alloc | apply pw_below_drewN | apply below_drew1 | refine below_set ?_ GE448.out | refine below_set ?_ GE452.out) | exact HB.out)⟩
   (try clear BK448)
   (try clear BK452)
   (try clear HB)
   generalize ((w20.setCell ⟨gb452, 0, none⟩ (.string t449)).setCell ⟨gb452, 1, none⟩ (.string t450)) = w23 at n0_ n1_ n2_ ⊢
   have BK448 := n0_
   have BK452 := n1_
   have HB := n2_
   clear n0_ n1_ n2_
   have n0_ := Aside0.mk (blk_drew BK448.out)
   have n1_ := Aside0.mk (blk_drew BK452.out)
   have n2_ := Aside0.mk (below_drew1 HB.out)
   clear BK448
   clear BK452
   clear HB
   have BK448 := n0_
   have BK452 := n1_
   have HB := n2_
   clear n0_ n1_ n2_
   refine start_ (n := 9) (S := fun w' => w'.cell? ⟨gb452, 0, none⟩ = some (.string t449) ∧ w'.cell? ⟨gb452, 1, none⟩ = some (.string t450)) (ds := []) #[false, false, false, false, false, false, false, false, false] (by kernel_rfl) rfl rfl ⟨(blk_cell BK452.out 0).trans rfl, (blk_cell BK452.out 1).trans rfl⟩ (fun hHeld => ?_); refine with_tabW bulletinref13_Strict.tab2 bulletinref13_Strict.bits2 (fun HT_ HW_ => ?_)
   generalize w23.drew = w24 at BK448 BK452 HB hHeld ⊢
   refine pure_ (i := 0) (N := some 11) (v := ?_) (a' := ?_) (bitsL 9 1) rfl rfl (any_of HT_.out (by kernel_rfl)) (fun _ _ _ h => h) (Or.inl ⟨by rfl, ?_⟩) ?_ ?_
   rotate_left
   ·intro w'
    go_simp
    with_reducible rfl
   rotate_left
   ·simp only [Act.put, List.setIfInBounds_toArray, List.set_cons_zero, List.set_cons_succ, i64_w, i32_w]
    rfl
   refine pure_ (i := 1) (N := some 12) (v := ?_) (a' := ?_) (bitsL 9 3) rfl rfl (any_of HT_.out (by kernel_rfl)) (fun _ _ _ h => h) (Or.inl ⟨by rfl, ?_⟩) ?_ ?_
   rotate_left
   ·intro w'
    go_simp
    with_reducible rfl
   rotate_left
   ·simp only [Act.put, List.setIfInBounds_toArray, List.set_cons_zero, List.set_cons_succ, i64_w, i32_w]
    rfl
   refine pure_ (i := 2) (N := some 13) (v := ?_) (a' := ?_) (bitsL 9 7) rfl rfl (any_of HT_.out (by kernel_rfl)) (fun _ _ _ h => h) (Or.inl ⟨by rfl, ?_⟩) ?_ ?_
   rotate_left
   ·intro w'
    go_simp
    with_reducible rfl
   rotate_left
   ·simp only [Act.put, List.setIfInBounds_toArray, List.set_cons_zero, List.set_cons_succ, i64_w, i32_w]
    rfl
   refine pure_ (i := 3) (N := some 14) (v := ?_) (a' := ?_) (bitsL 9 15) rfl rfl (any_of HT_.out (by kernel_rfl)) (fun _ _ _ h => h) (Or.inl ⟨by rfl, ?_⟩) ?_ ?_
   rotate_left
   ·intro w'
    go_simp
    with_reducible rfl
   rotate_left
   ·simp only [Act.put, List.setIfInBounds_toArray, List.set_cons_zero, List.set_cons_succ, i64_w, i32_w]
    rfl
   refine take_ (i := 5) (N := some 16) (v := ?_) (a' := ?_) (bitsL 9 47) rfl rfl (take_ofW HT_.out HW_.out (by kernel_rfl)) (fun _ _ _ h => h) (Or.inl ⟨by rfl, ?_⟩) hHeld ?_ ?_
   rotate_left
   ·rintro w' ⟨s0, s1⟩
    go_simp
    with_reducible rfl
   rotate_left
   ·simp only [Act.put, List.setIfInBounds_toArray, List.set_cons_zero, List.set_cons_succ, i64_w, i32_w]
    rfl
   refine one_ (i := 4) (N := some 15) (bitsL 9 63) rfl rfl (one_of HT_.out (by kernel_rfl)) (by decide) (fun K hK => ?_)
   refine goes_ Tryd.func78 (by kernel_rfl) rfl #[.string a0] (by rfl) rfl rfl am ?_
   with_reducible refine (bulletinref06_Fold.calls k a0 t453 _ A4.out).mono ?_
   rintro e w25 ⟨rfl, hb⟩
   refine ⟨_, rfl, ?_⟩
   have n0_ := Aside0.mk (blk_below (g := gb448) (o := .cells #[.string (⟨#[]⟩ : ByteArray), .string (⟨#[]⟩ : ByteArray)] 31 (0, 0)) bk hb)
   have n1_ := Aside0.mk (blk_below (g := gb452) (o := .cells #[.string t449, .string t450] 31 (0, 0)) bk hb)
   have n2_ := Aside0.mk (below_step (by repeat (first | (with_reducible first | exact HB.out | apply below_alloc | apply pw_below_drewN | apply below_drew1 | refine below_set ?_ GE448.out | refine below_set ?_ GE452.out) | exact HB.out)) hb)
   clear BK448
   clear BK452
   clear HB
   have BK448 := n0_
   have BK452 := n1_
   have HB := n2_
   clear n0_ n1_ n2_
   (try clear hb)
   (try clear hb2)
   (try clear hk)
   (try clear hi)
   refine hK.out _ _ ⟨(blk_cell BK452.out 0).trans rfl, (blk_cell BK452.out 1).trans rfl⟩ (fun hHeld => ?_)
   clear hK K
   refine norm_ (a' := ?_) ?_ ?_
   rotate_left
   ·show Act.put _ (some 15) _ = _
    simp only [Act.put, List.setIfInBounds_toArray, List.set_cons_zero, List.set_cons_succ, i64_w, i32_w]
    rfl
   refine one_ (i := 6) (N := some 17) (bitsL 9 127) rfl rfl (one_of HT_.out (by kernel_rfl)) (by decide) (fun K hK => ?_)
   refine goes_ Tryd.func31 (by kernel_rfl) rfl #[.agg #[.string t449, .string t450]] (by rfl) rfl rfl am ?_
   with_reducible refine (bulletinref13_Key.calls k t449 t450 t454 _ A5.out).mono ?_
   rintro e w26 ⟨rfl, hb⟩
   refine ⟨_, rfl, ?_⟩
   have n0_ := Aside0.mk (blk_below (g := gb448) (o := .cells #[.string (⟨#[]⟩ : ByteArray), .string (⟨#[]⟩ : ByteArray)] 31 (0, 0)) bk hb)
   have n1_ := Aside0.mk (blk_below (g := gb452) (o := .cells #[.string t449, .string t450] 31 (0, 0)) bk hb)
   have n2_ := Aside0.mk (below_step (by repeat (first | (with_reducible first | exact HB.out | apply below_alloc | apply pw_below_drewN | apply below_drew1 | refine below_set ?_ GE448.out | refine below_set ?_ GE452.out) | exact HB.out)) hb)
   clear BK448
   clear BK452
   clear HB
   have BK448 := n0_
   have BK452 := n1_
   have HB := n2_
   clear n0_ n1_ n2_
   (try clear hb)
   (try clear hb2)
   (try clear hk)
   (try clear hi)
   refine hK.out _ _ ⟨(blk_cell BK452.out 0).trans rfl, (blk_cell BK452.out 1).trans rfl⟩ (fun hHeld => ?_)
   clear hK K
   refine norm_ (a' := ?_) ?_ ?_
   rotate_left
   ·show Act.put _ (some 17) _ = _
    simp only [Act.put, List.setIfInBounds_toArray, List.set_cons_zero, List.set_cons_succ, i64_w, i32_w]
    rfl
   refine pure_ (i := 7) (N := some 18) (v := ?_) (a' := ?_) (bitsL 9 255) rfl rfl (any_of HT_.out (by kernel_rfl)) (fun _ _ _ h => h) (Or.inl ⟨by rfl, ?_⟩) ?_ ?_
   rotate_left
   ·intro w'
    go_simp
    with_reducible rfl
   rotate_left
   ·simp only [Act.put, List.setIfInBounds_toArray, List.set_cons_zero, List.set_cons_succ, i64_w, i32_w]
    rfl
   refine pure_ (i := 8) (N := some 19) (v := ?_) (a' := ?_) (bitsL 9 511) rfl rfl (any_of HT_.out (by kernel_rfl)) (fun _ _ _ h => h) (Or.inl ⟨by rfl, ?_⟩) ?_ ?_
   rotate_left
   ·intro w'
    go_simp
    with_reducible rfl
   rotate_left
   ·simp only [Act.put, List.setIfInBounds_toArray, List.set_cons_zero, List.set_cons_succ, i64_w, i32_w]
    rfl
   refine done_ (done_of HT_.out (by kernel_rfl)) ?_
   have hcz27_0 : w26.cell? ⟨gb448, 0, none⟩ = some (.string (⟨#[]⟩ : ByteArray)) := (blk_cell BK448.out 0).trans rfl
   have hcz27_1 : w26.cell? ⟨gb448, 1, none⟩ = some (.string (⟨#[]⟩ : ByteArray)) := (blk_cell BK448.out 1).trans rfl
   have hfz27_0 := blk_frozen BK448.out 0
   have hfz27_1 := blk_frozen BK448.out 1
   try go_wp2
   refine bodyPost_ret (results_ct rfl _ _ gb448 31 #[.string (⟨#[]⟩ : ByteArray), .string (⟨#[]⟩ : ByteArray)] (0, 0) _ rfl (by (with_reducible repeat (first | refine blk_drewN ?_ _ | refine blk_drew ?_ | refine blk_alloc ?_ _)); refine blk_put (cs := #[.string (⟨#[]⟩ : ByteArray), .string (⟨#[]⟩ : ByteArray)]) ?_ 1 _ rfl; (with_reducible repeat (first | refine blk_drewN ?_ _ | refine blk_drew ?_ | refine blk_alloc ?_ _)); refine blk_put (cs := #[.string (⟨#[]⟩ : ByteArray), .string (⟨#[]⟩ : ByteArray)]) ?_ 0 _ rfl; (with_reducible repeat (first | refine blk_drewN ?_ _ | refine blk_drew ?_ | refine blk_alloc ?_ _)); exact BK448.out) Tryd.underlying31 rfl (by kernel_rfl)) rfl ?_
   exact ⟨by first | rfl | (simp [errW_none, errW_some] <;> rfl) | (simp [*, errW_none, errW_some] <;> rfl), by repeat (first | (with_reducible first | exact HB.out | apply below_alloc | apply pw_below_drewN | apply below_drew1 | refine below_set ?_ GE448.out | refine below_set ?_ GE452.out) | exact HB.out)⟩
 ·rw [if_neg c3] at H
  have c3b0 : (t451 == 0) = false := beq_eq_false_iff_ne.mpr c3
  have c3b1 : (t451 != 0) = true := bne_iff_ne.mpr c3
  simp only [Option.some.injEq, Prod.mk.injEq] at H
  obtain ⟨rfl, rfl, rfl⟩ := H
  go_enter Tryd.func38, Tryd.ntmps38
  try go_wp2_with (first | ((with_reducible refine gate_dst (N := 2) rfl ?_); refine box_event ?hg (N := 2) ?hd (cs := #[.string (⟨#[]⟩ : ByteArray), .string (⟨#[]⟩ : ByteArray)]) (t := 31) ?hr ?_; (case hd => rfl); (case hg => rfl); (case hr => first | (go_simp; done) | (go_simp; rfl)); intro gb448 hg w28 hbox hb; have n0_ := Aside0.mk (below_step bw hb); have n1_ := Aside0.mk (hbox); have n2_ := Aside0.mk ((by rw [hg]; exact (below_size bw) : w.heap.size ≤ gb448)); have n3_ := Aside0.mk ((by rw [hg]; exact (below_size bw) : w.heap.size ≤ gb448)); clear HB; have HB := n0_; have BK448 := n1_; have GW448 := n2_; have GE448 := n3_; clear n0_ n1_ n2_ n3_; clear hb hbox hg) | ((with_reducible refine gate_callee (f := 37) rfl ?_); refine goesL_ (some 8) rfl rfl Tryd.func37 (by kernel_rfl) rfl #[.string a0] rfl am ?_; (with_reducible refine (bulletinref13_Parse.calls k a0 t449 t450 t451 _ A2.out).mono ?_); rintro e w29 ⟨rfl, hb⟩; refine ⟨_, rfl, ?_⟩; have n0_ := Aside0.mk (blk_below (g := gb448) (o := .cells #[.string (⟨#[]⟩ : ByteArray), .string (⟨#[]⟩ : ByteArray)] 31 (0, 0)) bk hb); have n1_ := Aside0.mk (below_step bwS hb); clear BK448; clear HB; have BK448 := n0_; have HB := n1_; clear n0_ n1_; (try clear hb); (try clear hb2); (try clear hk); (try clear hi)) | ((with_reducible refine gate_dst (N := 4) rfl ?_); refine box_event ?hg (N := 4) ?hd (cs := #[.string (⟨#[]⟩ : ByteArray), .string (⟨#[]⟩ : ByteArray)]) (t := 31) ?hr ?_; (case hd => rfl); (case hg => rfl); (case hr => first | (go_simp; done) | (go_simp; rfl)); intro gb452 hg w30 hbox hb; have n0_ := Aside0.mk (blk_below (g := gb448) (o := .cells #[.string (⟨#[]⟩ : ByteArray), .string (⟨#[]⟩ : ByteArray)] 31 (0, 0)) bk hb); have n1_ := Aside0.mk (below_step bwS hb); have n2_ := Aside0.mk (hbox); have n3_ := Aside0.mk ((by rw [hg]; exact (below_size bwS) : w.heap.size ≤ gb452)); have n4_ := Aside0.mk ((by rw [hg]; exact (below_size bwS) : w.heap.size ≤ gb452)); have n5_ := Aside0.mk ((by rw [hg]; exact Nat.ne_of_lt (blk_lt (g := gb448) (o := .cells #[.string (⟨#[]⟩ : ByteArray), .string (⟨#[]⟩ : ByteArray)] 31 (0, 0)) bk) : gb448 ≠ gb452)); have n6_ := Aside0.mk ((by rw [hg]; exact Nat.ne_of_gt (blk_lt (g := gb448) (o := .cells #[.string (⟨#[]⟩ : ByteArray), .string (⟨#[]⟩ : ByteArray)] 31 (0, 0)) bk) : gb452 ≠ gb448)); clear BK448; clear HB; have BK448 := n0_; have HB := n1_; have BK452 := n2_; have GW452 := n3_; have GE452 := n4_; have NB448_452 := n5_; have NB452_448 := n6_; clear n0_ n1_ n2_ n3_ n4_ n5_ n6_; clear hb hbox hg; have hnb31 := NB452_448.out; have hnc31 := NB448_452.out; have hcz32_0 : w30.cell? ⟨gb452, 0, none⟩ = some (.string (⟨#[]⟩ : ByteArray)) := (blk_cell BK452.out 0).trans rfl; have hcz32_1 : w30.cell? ⟨gb452, 1, none⟩ = some (.string (⟨#[]⟩ : ByteArray)) := (blk_cell BK452.out 1).trans rfl; have hfz32_0 := blk_frozen BK452.out 0; have hfz32_1 := blk_frozen BK452.out 1))
  have n0_ : Aside0 (((w30.setCell ⟨gb452, 0, none⟩ (.string t449)).setCell ⟨gb452, 1, none⟩ (.string t450)).heap[gb448]? = some (.cells #[.string (⟨#[]⟩ : ByteArray), .string (⟨#[]⟩ : ByteArray)] 31 (0, 0))) := ⟨by (with_reducible repeat (first | refine blk_drewN ?_ _ | refine blk_drew ?_ | refine blk_alloc ?_ _)); refine blk_far ?_ NB448_452.out _; (with_reducible repeat (first | refine blk_drewN ?_ _ | refine blk_drew ?_ | refine blk_alloc ?_ _)); refine blk_far ?_ NB448_452.out _; (with_reducible repeat (first | refine blk_drewN ?_ _ | refine blk_drew ?_ | refine blk_alloc ?_ _)); exact BK448.out⟩
  have n1_ : Aside0 (((w30.setCell ⟨gb452, 0, none⟩ (.string t449)).setCell ⟨gb452, 1, none⟩ (.string t450)).heap[gb452]? = some (.cells #[.string t449, .string t450] 31 (0, 0))) := ⟨by (with_reducible repeat (first | refine blk_drewN ?_ _ | refine blk_drew ?_ | refine blk_alloc ?_ _)); refine blk_put (cs := #[.string t449, .string (⟨#[]⟩ : ByteArray)]) ?_ 1 _ rfl; (with_reducible repeat (first | refine blk_drewN ?_ _ | refine blk_drew ?_ | refine blk_alloc ?_ _)); refine blk_put (cs := #[.string (⟨#[]⟩ : ByteArray), .string (⟨#[]⟩ : ByteArray)]) ?_ 0 _ rfl; (with_reducible repeat (first | refine blk_drewN ?_ _ | refine blk_drew ?_ | refine blk_alloc ?_ _)); exact BK452.out⟩
  have n2_ : Aside0 (Below w.heap.size w ((w30.setCell ⟨gb452, 0, none⟩ (.string t449)).setCell ⟨gb452, 1, none⟩ (.string t450))) := ⟨by repeat (first | (with_reducible first | exact HB.out | apply below_alloc | apply pw_below_drewN | apply below_drew1 | refine below_set ?_ GE448.out | refine below_set ?_ GE452.out) | exact HB.out)⟩
  (try clear BK448)
  (try clear BK452)
  (try clear HB)
  generalize ((w30.setCell ⟨gb452, 0, none⟩ (.string t449)).setCell ⟨gb452, 1, none⟩ (.string t450)) = w33 at n0_ n1_ n2_ ⊢
  have BK448 := n0_
  have BK452 := n1_
  have HB := n2_
  clear n0_ n1_ n2_
  have n0_ := Aside0.mk (blk_drew BK448.out)
  have n1_ := Aside0.mk (blk_drew BK452.out)
  have n2_ := Aside0.mk (below_drew1 HB.out)
  clear BK448
  clear BK452
  clear HB
  have BK448 := n0_
  have BK452 := n1_
  have HB := n2_
  clear n0_ n1_ n2_
  refine start_ (n := 9) (S := fun w' => True) (ds := []) #[false, false, false, false, false, false, false, false, false] (by kernel_rfl) rfl rfl trivial (fun hHeld => ?_); refine with_tabW bulletinref13_Strict.tab2 bulletinref13_Strict.bits2 (fun HT_ HW_ => ?_)
  generalize w33.drew = w34 at BK448 BK452 HB hHeld ⊢
  refine pure_ (i := 0) (N := some 11) (v := ?_) (a' := ?_) (bitsL 9 1) rfl rfl (any_of HT_.out (by kernel_rfl)) (fun _ _ _ h => h) (Or.inl ⟨by rfl, ?_⟩) ?_ ?_
  rotate_left
  ·intro w'
   go_simp
   with_reducible rfl
  rotate_left
  ·simp only [Act.put, List.setIfInBounds_toArray, List.set_cons_zero, List.set_cons_succ, i64_w, i32_w]
   rfl
  refine pure_ (i := 1) (N := some 12) (v := ?_) (a' := ?_) (bitsL 9 3) rfl rfl (any_of HT_.out (by kernel_rfl)) (fun _ _ _ h => h) (Or.inl ⟨by rfl, ?_⟩) ?_ ?_
  rotate_left
  ·intro w'
   go_simp
   with_reducible rfl
  rotate_left
  ·simp only [Act.put, List.setIfInBounds_toArray, List.set_cons_zero, List.set_cons_succ, i64_w, i32_w]
   rfl
  refine pure_ (i := 2) (N := some 13) (v := ?_) (a' := ?_) (bitsL 9 7) rfl rfl (any_of HT_.out (by kernel_rfl)) (fun _ _ _ h => h) (Or.inl ⟨by rfl, ?_⟩) ?_ ?_
  rotate_left
  ·intro w'
   go_simp
   with_reducible rfl
  rotate_left
  ·simp only [Act.put, List.setIfInBounds_toArray, List.set_cons_zero, List.set_cons_succ, i64_w, i32_w]
   rfl
  refine pure_ (i := 3) (N := some 14) (v := undef) (a' := ?_) (bitsL 9 15) rfl rfl (any_of HT_.out (by kernel_rfl)) (fun _ _ _ h => h) (Or.inr ⟨by rfl, rfl⟩) ?_ ?_
  rotate_left
  ·simp only [Act.put, List.setIfInBounds_toArray, List.set_cons_zero, List.set_cons_succ, i64_w, i32_w]
   rfl
  refine pure_ (i := 4) (N := some 15) (v := undef) (a' := ?_) (bitsL 9 31) rfl rfl (any_of HT_.out (by kernel_rfl)) (fun _ _ _ h => h) (Or.inr ⟨by rfl, rfl⟩) ?_ ?_
  rotate_left
  ·simp only [Act.put, List.setIfInBounds_toArray, List.set_cons_zero, List.set_cons_succ, i64_w, i32_w]
   rfl
  refine pure_ (i := 5) (N := some 16) (v := undef) (a' := ?_) (bitsL 9 63) rfl rfl (any_of HT_.out (by kernel_rfl)) (fun _ _ _ h => h) (Or.inr ⟨by rfl, rfl⟩) ?_ ?_
  rotate_left
  ·simp only [Act.put, List.setIfInBounds_toArray, List.set_cons_zero, List.set_cons_succ, i64_w, i32_w]
   rfl
  refine pure_ (i := 6) (N := some 17) (v := undef) (a' := ?_) (bitsL 9 127) rfl rfl (any_of HT_.out (by kernel_rfl)) (fun _ _ _ h => h) (Or.inr ⟨by rfl, rfl⟩) ?_ ?_
  rotate_left
  ·simp only [Act.put, List.setIfInBounds_toArray, List.set_cons_zero, List.set_cons_succ, i64_w, i32_w]
   rfl
  refine pure_ (i := 7) (N := some 18) (v := undef) (a' := ?_) (bitsL 9 255) rfl rfl (any_of HT_.out (by kernel_rfl)) (fun _ _ _ h => h) (Or.inr ⟨by rfl, rfl⟩) ?_ ?_
  rotate_left
  ·simp only [Act.put, List.setIfInBounds_toArray, List.set_cons_zero, List.set_cons_succ, i64_w, i32_w]
   rfl
  refine pure_ (i := 8) (N := some 19) (v := ?_) (a' := ?_) (bitsL 9 511) rfl rfl (any_of HT_.out (by kernel_rfl)) (fun _ _ _ h => h) (Or.inl ⟨by rfl, ?_⟩) ?_ ?_
  rotate_left
  ·intro w'
   go_simp
   with_reducible rfl
  rotate_left
  ·simp only [Act.put, List.setIfInBounds_toArray, List.set_cons_zero, List.set_cons_succ, i64_w, i32_w]
   rfl
  refine done_ (done_of HT_.out (by kernel_rfl)) ?_
  have hcz35_0 : w34.cell? ⟨gb452, 0, none⟩ = some (.string t449) := (blk_cell BK452.out 0).trans rfl
  have hcz35_1 : w34.cell? ⟨gb452, 1, none⟩ = some (.string t450) := (blk_cell BK452.out 1).trans rfl
  have hfz35_0 := blk_frozen BK452.out 0
  have hfz35_1 := blk_frozen BK452.out 1
  have hcz36_0 : w34.cell? ⟨gb448, 0, none⟩ = some (.string (⟨#[]⟩ : ByteArray)) := (blk_cell BK448.out 0).trans rfl
  have hcz36_1 : w34.cell? ⟨gb448, 1, none⟩ = some (.string (⟨#[]⟩ : ByteArray)) := (blk_cell BK448.out 1).trans rfl
  have hfz36_0 := blk_frozen BK448.out 0
  have hfz36_1 := blk_frozen BK448.out 1
  try go_wp2
  refine bodyPost_ret (results_ct rfl _ _ gb448 31 #[.string t449, .string t450] (0, 0) _ rfl (by (with_reducible repeat (first | refine blk_drewN ?_ _ | refine blk_drew ?_ | refine blk_alloc ?_ _)); refine blk_put (cs := #[.string t449, .string (⟨#[]⟩ : ByteArray)]) ?_ 1 _ rfl; (with_reducible repeat (first | refine blk_drewN ?_ _ | refine blk_drew ?_ | refine blk_alloc ?_ _)); refine blk_put (cs := #[.string (⟨#[]⟩ : ByteArray), .string (⟨#[]⟩ : ByteArray)]) ?_ 0 _ rfl; (with_reducible repeat (first | refine blk_drewN ?_ _ | refine blk_drew ?_ | refine blk_alloc ?_ _)); exact BK448.out) Tryd.underlying31 rfl (by kernel_rfl)) rfl ?_
  exact ⟨by first | rfl | (simp [errW_none, errW_some] <;> rfl) | (simp [*, errW_none, errW_some] <;> rfl), by repeat (first | (with_reducible first | exact HB.out | apply below_alloc | apply pw_below_drewN | apply below_drew1 | refine below_set ?_ GE448.out | refine below_set ?_ GE452.out) | exact HB.out)⟩

end Go.Proofs.YtlomcmdbbnbciaaDoor.Fn
